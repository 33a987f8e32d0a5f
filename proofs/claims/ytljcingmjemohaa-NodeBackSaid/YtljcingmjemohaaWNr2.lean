/- node.Parse. -/
import Derived.Test.YtljcingmjemohaaKB
import Derived.Handy
import Derived.Test.YtljcingmjemohaaWNr1
namespace Go.Proofs.Ytljcingmjemohaa.K
open Go Go.RowKit Go.Proofs.YtljcingmjemohaaW.PrintWords Go.Proofs.YtljcingmjemohaaW.PrintLast Go.Proofs.YtljcingmjemohaaW.PrintMore
set_option linter.unusedVariables false
set_option linter.unusedSimpArgs false
open Go.Proofs.Ytljcingmjemohaa.MBox (Bx noneB)
open Go.Proofs.Ytljcingmjemohaa.MChoose (En En0)
open Go.Proofs.Ytljcingmjemohaa.MNd
open Go.Proofs.Ytljcingmjemohaa.MBox (has good)
open Go.Proofs.Ytljcingmjemohaa.MOct (getV)
set_option maxHeartbeats 4000000 in
set_option maxRecDepth 100000 in
theorem nparse_main (w : World) (A : Option Addr) (c : Nat) (b : List Int) (h : CB w A b) (hc : b.length ≤ c) (hb : bytesOk b) (hl : b.length < 1000000) (h1 : ¬ b.length < 2) {N : Nat} (hN : b.getD 1 0 = N) (h2 : ¬ (b.length : Int) - 2 < 40 * N) :
    Calls Try.prog 22 #[.slice A b.length c] w (PAns w b) := by
  have HC := Lib.hid h
  have HCC := Lib.hid hc
  have HBY := Lib.hid hb
  have HL := Lib.hid hl
  have Z := Blk.new w #[.int .i64 0, .slice none 0 0] 24
  have B0 : Hid (Bel w (w.alloc (.cells #[.int .i64 0, .slice none 0 0] 24))) := Lib.hid ((Bel.refl w).alloc (Nat.le_refl _) _)
  have hlt : ¬ (b.length : Int) < 2 := by omega
  have hN255 := hb _ (MOct.getD_mem b 1 (by omega))
  rw [hN] at hN255
  have HNN : Hid (N < 256 ∧ 2 + 40 * N ≤ b.length) := Lib.hid ⟨by omega, by omega⟩
  have HPB : Hid (∀ k, k ≤ N → allOk b k = false → parseN b = (0, [], 9)) := Lib.hid (fun k hk h => parse_box h1 hN h2 hk h)
  have HPE : Hid (allOk b N = true → (¬ b.length = 2 + 40 * N ∨ goodN (b.getD 0 0) (ensTo b N) = false) → parseN b = (0, [], 9)) := Lib.hid (fun h h3 => parse_end h1 hN h2 h h3)
  have HPF : Hid (allOk b N = true → b.length = 2 + 40 * N → goodN (b.getD 0 0) (ensTo b N) = true → parseN b = (b.getD 0 0, ensTo b N, 0)) := Lib.hid (fun h h3 h4 => parse_fine h1 hN h2 h h3 h4)
  have hw1 : IntKind.i64.wrap ((b.length : Int) - 2) = (b.length : Int) - 2 := IntWalk.i64_in _ (by omega)
  have hw2 : IntKind.i64.wrap (N : Int) = N := IntWalk.i64_in _ (by omega)
  have hw3 : IntKind.i64.wrap (40 * (N : Int)) = 40 * N := IntWalk.i64_in _ (by omega)
  obtain ⟨l0, hl0⟩ : ∃ x, b.getD 0 0 = x := ⟨_, rfl⟩
  have hl0r := hb _ (MOct.getD_mem b 0 (by omega))
  rw [hl0] at hl0r HPE HPF
  have HW4 : Hid (IntKind.i64.wrap l0 = l0) := Lib.hid (IntWalk.i64_in _ (by omega))
  have HT2 : Hid ((b.take 2).getD 0 0 = l0 ∧ (b.take 2).getD 1 0 = (N : Int) ∧ (b.take 2).length = 2) := Lib.hid (by
    match b, h1, hl0, hN with
    | x :: y :: r, _, hl0, hN => exact ⟨hl0, hN, rfl⟩
    | [x], h1, _, _ => exact absurd (show [x].length < 2 by simp) h1
    | [], h1, _, _ => exact absurd (by decide) h1)
  obtain ⟨ad, hA, hcell⟩ := h.at_ 0 (by omega)
  subst hA
  obtain ⟨bk, off, rfl, _⟩ := add_none hcell
  have x1 : (w.alloc (.cells #[.int .i64 0, .slice none 0 0] 24)).cell? ⟨bk, off + 1, none⟩ = some (.int .u8 N) := by
    obtain ⟨ad, e, hx⟩ := (h.alloc (.cells #[.int .i64 0, .slice none 0 0] 24)).at_ 1 (by omega)
    injection e with e
    subst e
    rw [hN, add_mid] at hx
    exact hx
  have hi : (1 : Int) < b.length := by omega
  have hi2 : 1 < b.length := by omega
  clear hN hcell h1 hN255 hl0 hl0r
  obtain ⟨t, ht⟩ : ∃ t, b.length = t := ⟨_, rfl⟩
  have HT := Lib.hid ht
  rw [ht] at HCC HL HNN HPE HPF hlt h2 hw1 hi hi2 ⊢
  clear h hc hb hl ht
  go_enter Try.func22, Try.ntmps22
  go_upto_region 1 with (fail)
  obtain ⟨W, hW⟩ : ∃ Y, w.alloc (.cells #[.int .i64 0, .slice none 0 0] 24) = Y := ⟨_, rfl⟩
  rw [hW] at Z B0 x1 ⊢
  clear hW
  obtain ⟨g2, hg2⟩ : ∃ x, w.heap.size = x := ⟨_, rfl⟩
  have HG2 : Hid (w.heap.size = g2) := Lib.hid hg2
  rw [hg2] at Z ⊢
  clear hg2
  have G2 := Lib.hid Z
  clear Z
  go_upto_region 3 with (fail)
  clear h2 hw1 hw3 hlt x1 hi hi2
  have HRD : Hid (Calls Try.prog 54 #[.slice (some ⟨bk, off, none⟩) t c] W fun e w' => ∃ q, e = .returned (.pointer (some ⟨q, 0, none⟩)) ∧ W.heap.size ≤ q ∧ Bel W w' ∧ Src w' q true b 0) := Lib.hid (by
    have := Read_calls W (some ⟨bk, off, none⟩) c b (HC.out.below B0.out) (by rw [HT.out]; exact HCC.out) (by rw [HT.out]; have := HL.out; omega)
    rw [HT.out] at this
    exact this)
  go_upto_region 5 with (go_at_call 54; refine (HRD.out).mono ?_; rintro e w3 ⟨q, rfl, hq3, hb3, hs3⟩)
  have HS3 := Lib.hid hs3
  have B3 := Lib.hid (bthen B0.out hb3)
  have G23 := Lib.hid (Blk.bel G2.out hb3)
  have HQ : Hid (w.heap.size ≤ q ∧ g2 < q ∧ q < w3.heap.size) := Lib.hid ⟨Nat.le_trans B0.out.size hq3, Nat.lt_of_lt_of_le G2.out.lt hq3, hs3.lt⟩
  clear hq3 hb3 hs3
  have HTK := Lib.hid (take_src w3 q b 2 HS3.out (by rw [HT.out]; have := HNN.out; omega) (by rw [HT.out]; have := HL.out; omega))
  go_upto_region 6 with (go_at_call 55; refine (HTK.out).mono ?_; rintro e w4 ⟨A7, c7, rfl, hk7, hC7, hg7, hs7⟩)
  have HS4 := Lib.hid hs7.out
  have B4 := Lib.hid (bel_up B3.out hg7.out HQ.out.1)
  have G24 := Lib.hid (Blk.up G23.out hg7.out (by have := HQ.out; omega))
  have HQ4 : Hid (q < w4.heap.size) := Lib.hid HS4.out.lt
  have HC7 := hC7
  clear hk7 hg7 hs7 HTK HRD
  obtain ⟨ad7, hA7, hcell7⟩ := HC7.out.at_ 0 (by rw [HT2.out.2.2]; omega)
  subst hA7
  obtain ⟨bk7, off7, rfl, _⟩ := add_none hcell7
  have y0 : w4.cell? ⟨bk7, off7, none⟩ = some (.int .u8 l0) := by
    rw [HT2.out.1, add_mid, Nat.add_zero] at hcell7
    exact hcell7
  have y1 : (w4.alloc (.cells #[.int .i64 l0, .slice none 0 0] 24)).cell? ⟨bk7, off7 + 1, none⟩ = some (.int .u8 N) := by
    obtain ⟨ad, e, hx⟩ := (HC7.out.alloc (.cells #[.int .i64 l0, .slice none 0 0] 24)).at_ 1 (by rw [HT2.out.2.2]; omega)
    injection e with e
    subst e
    rw [HT2.out.2.1, add_mid] at hx
    exact hx
  have hw4 := HW4.out
  have G8 := Blk.new w4 #[.int .i64 l0, .slice none 0 0] 24
  have al := (Bel.refl w4).alloc (Nat.le_refl _) (.cells #[.int .i64 l0, .slice none 0 0] 24)
  have B5 := Lib.hid (bthen B4.out al)
  have HS5 := Lib.hid (HS4.out.below al)
  have G25 := Lib.hid (Blk.bel G24.out al)
  clear hcell7 hC7
  go_upto_region 7 with (fail)
  obtain ⟨w5, hW⟩ : ∃ Y, w4.alloc (.cells #[.int .i64 l0, .slice none 0 0] 24) = Y := ⟨_, rfl⟩
  rw [hW] at G8 B5 HS5 G25 y1 al ⊢
  have HSZ : Hid (w4.heap.size ≤ w5.heap.size) := Lib.hid al.size
  clear hW y0 hw4 al
  obtain ⟨g8, hg8⟩ : ∃ x, w4.heap.size = x := ⟨_, rfl⟩
  have HG8 : Hid (q < g8 ∧ w4.heap.size = g8) := Lib.hid ⟨by rw [← hg8]; exact HQ4.out, hg8⟩
  rw [hg8] at G8 ⊢
  clear hg8
  have HG88 := Lib.hid G8
  clear G8
  have HS50 : Hid (Src w5 q true (b.drop (2 + 40 * 0)) 0) := HS5
  go_wp2
  clear y1
  go_loopw [43] (fun cnt wr => ∃ (k : Nat) (Av : Option Addr) (nv cv : Nat), cnt = .int .u8 k ∧ k ≤ N ∧ Hid (Bel w wr) ∧ Hid (Src wr q true (b.drop (2 + 40 * k)) 0) ∧ Hid (Blk wr g8 #[.int .i64 l0, .slice Av nv cv] 24) ∧ Hid (Blk wr g2 #[.int .i64 0, .slice none 0 0] 24) ∧ Hid (RE 57 w5 wr (.slice Av nv cv) (ensTo b k)) ∧ Hid (allOk b k = true) ∧ Hid (w5.heap.size ≤ wr.heap.size)) (fun cnt _ => N - (intOf cnt).toNat)
  case atStart => exact ⟨0, none, 0, 0, rfl, by omega, B5, HS50, HG88, G25, Lib.hid (RE.nil _ _ _), Lib.hid rfl, Lib.hid (Nat.le_refl _)⟩
  case round =>
    obtain ⟨k, Av, nv, cv, rfl, hk, HBk, HSk, HGk, HZk, HEk, HAk, HSZk⟩ := hrel
    by_cases hlt : k < N
    · have HKL := Lib.hid hlt
      have hlk : (k : Int) < N := by omega
      have hdl : (b.drop (2 + 40 * k)).length = t - (2 + 40 * k) := by rw [List.length_drop, HT.out]
      have e1 : (b.drop (2 + 40 * k)).drop 8 = b.drop (10 + 40 * k) := by rw [List.drop_drop]; congr 1; omega
      have e2 : (b.drop (10 + 40 * k)).drop 32 = b.drop (2 + 40 * (k + 1)) := by rw [List.drop_drop]; congr 1; omega
      have HI := Lib.hid (int_src wr q (b.drop (2 + 40 * k)) HSk.out (bytesOk_drop HBY.out _) (by rw [hdl]; have := HNN.out; omega))
      rw [e1] at HI
      have HDL : Hid (32 ≤ (b.drop (10 + 40 * k)).length ∧ (b.drop (10 + 40 * k)).length < 1000000) := Lib.hid (by rw [List.length_drop, HT.out]; have := HNN.out; have := HL.out; omega)
      have HBL : Hid (bytesOk ((b.drop (10 + 40 * k)).take 32)) := Lib.hid (fun x hx => HBY.out x (List.mem_of_mem_drop (List.mem_of_mem_take hx)))
      obtain ⟨i0, hi0⟩ : ∃ x, rd8 (b.drop (2 + 40 * k)) = x := ⟨_, rfl⟩
      rw [hi0] at HI
      obtain ⟨l32, hl32⟩ : ∃ x, (b.drop (10 + 40 * k)).take 32 = x := ⟨_, rfl⟩
      obtain ⟨⟨bx, pe⟩, hpx⟩ : ∃ x, parseV l32 = x := ⟨_, rfl⟩
      have HEN : Hid (enAt b k = ⟨i0, bx⟩) := Lib.hid (by unfold enAt; rw [hi0, hl32, hpx])
      have HOK : Hid (enOk b k = decide (pe = 0)) := Lib.hid (by unfold enOk; rw [hl32, hpx])
      have HL32 : Hid (l32.length = 32) := Lib.hid (by rw [← hl32, List.length_take]; have := HDL.out; omega)
      have HPX := Lib.hid hpx
      have HE2 := Lib.hid e2
      have HE32 := Lib.hid hl32
      rw [hl32] at HBL
      clear hdl e1 e2 hi0 hl32 hpx
      go_upto_region 10 with (go_at_call 56; refine (HI.out).mono ?_; rintro e w9 ⟨rfl, hg9, hs9⟩)
      clear hlk
      have HS9 := Lib.hid hs9.out
      have B9w := Lib.hid (bel_up HBk.out hg9.out HQ.out.1)
      have G29 := Lib.hid (Blk.up HZk.out hg9.out (by have := HQ.out; omega))
      have G89 := Lib.hid (Blk.up HGk.out hg9.out (by have := HG8.out; omega))
      have HE9 := Lib.hid (HEk.out.only (by have := HQ4.out; have := HSZ.out; omega) hg9.out)
      have HZ9 : Hid (w5.heap.size ≤ w9.heap.size) := Lib.hid (Nat.le_trans HSZk.out hg9.out.size)
      have HT32 := Lib.hid (take_src w9 q (b.drop (10 + 40 * k)) 32 HS9.out HDL.out.1 (by have := HDL.out; omega))
      rw [HE2.out, HE32.out] at HT32
      clear hs9 hg9 HI
      go_upto_region 11 with (first
        | (go_at_call 57; refine (HBP.out).mono ?_; rintro e w11 ⟨rfl, hb11⟩)
        | (go_at_call 55; refine (HT32.out).mono ?_; rintro e w10 ⟨A10, c10, rfl, hk10, hC10, hg10, hs10⟩; have HBP : Hid (Calls Try.prog 57 #[.slice A10 32 c10] w10 fun e w' => e = .returned (.tuple #[.agg #[.bool bx.no, .int .i64 bx.lx, .int .i64 bx.ly, .int .i64 bx.hx, .int .i64 bx.hy], .int .i64 pe]) ∧ Bel w10 w') := Lib.hid (by
            have := boxParse_calls A10 c10 l32 w10 hC10.out (by rw [HL32.out]; exact hk10.out) (by rw [HL32.out]; omega) HBL.out
            rw [HL32.out, HPX.out] at this
            exact this)))
      have P10 := Blk.new w11 #[.bool bx.no, .int .i64 bx.lx, .int .i64 bx.ly, .int .i64 bx.hx, .int .i64 bx.hy] 38
      have al := bthen hb11 ((Bel.refl w11).alloc (Nat.le_refl _) (.cells #[.bool bx.no, .int .i64 bx.lx, .int .i64 bx.ly, .int .i64 bx.hx, .int .i64 bx.hy] 38))
      have HS12 := Lib.hid (hs10.out.below al)
      have B12 := Lib.hid (bthen (bel_up B9w.out hg10.out HQ.out.1) al)
      have G2C := Lib.hid (Blk.bel (Blk.up G29.out hg10.out (by have := HQ.out; omega)) al)
      have G8C := Lib.hid (Blk.bel (Blk.up G89.out hg10.out (by have := HG8.out; omega)) al)
      have HEC := Lib.hid ((HE9.out.only (by have := HQ4.out; have := HSZ.out; omega) hg10.out).below al)
      have HZC := Lib.hid (Nat.le_trans (Nat.le_trans HZ9.out hg10.out.size) al.size)
      obtain ⟨w12, hW⟩ : ∃ Y, w11.alloc (.cells #[.bool bx.no, .int .i64 bx.lx, .int .i64 bx.ly, .int .i64 bx.hx, .int .i64 bx.hy] 38) = Y := ⟨_, rfl⟩
      rw [hW] at P10 HS12 B12 G2C G8C HEC HZC ⊢
      obtain ⟨gb, hgb⟩ : ∃ x, w11.heap.size = x := ⟨_, rfl⟩
      rw [hgb] at P10 ⊢
      clear hW al hgb hb11 hk10 hC10 hg10 hs10 HT32
      by_cases hpe : pe = 0
      · subst hpe
        have hz0 : ((0 : Int) == 0) = true := rfl
        obtain ⟨p0, p1, p2, p3, p4⟩ := Blk.cells5 P10
        have s1 : w12.cell? ⟨g8, 1, none⟩ = some (.slice Av nv cv) := G8C.out.cell 1 rfl
        have HAN : Hid (allOk b (k + 1) = true) := Lib.hid (by rw [allOk, HAk.out, HOK.out]; rfl)
        have al2 := (Bel.refl w12).alloc (Nat.le_refl _) (.cells #[.int .i64 i0, .bool bx.no, .int .i64 bx.lx, .int .i64 bx.ly, .int .i64 bx.hx, .int .i64 bx.hy] 57)
        have HCL : Hid (CE (w12.alloc (.cells #[.int .i64 i0, .bool bx.no, .int .i64 bx.lx, .int .i64 bx.ly, .int .i64 bx.hx, .int .i64 bx.hy] 57)) (some ⟨w12.heap.size, 0, none⟩) [⟨i0, bx⟩]) := Lib.hid (CE.one (x := ⟨i0, bx⟩) (Blk.new w12 #[.int .i64 i0, .bool bx.no, .int .i64 bx.lx, .int .i64 bx.ly, .int .i64 bx.hx, .int .i64 bx.hy] 57))
        have HED := Lib.hid (HEC.out.below al2)
        have HSD := Lib.hid (HS12.out.below al2)
        have BD := Lib.hid (bthen B12.out al2)
        have G2D := Lib.hid (Blk.bel G2C.out al2)
        have G8D := Lib.hid (Blk.bel G8C.out al2)
        have HZD := Lib.hid (Nat.le_trans HZC.out al2.size)
        have HNO : Hid (some g8 ≠ (Value.slice Av nv cv).ownBlock ∧ some g2 ≠ (Value.slice Av nv cv).ownBlock) := Lib.hid ⟨Kd.R_ne HED.out G8D.out (by decide), Kd.R_ne HED.out G2D.out (by decide)⟩
        have s2 : (w12.alloc (.cells #[.int .i64 i0, .bool bx.no, .int .i64 bx.lx, .int .i64 bx.ly, .int .i64 bx.hx, .int .i64 bx.hy] 57)).cell? ⟨g8, 1, none⟩ = some (.slice Av nv cv) := G8D.out.cell 1 rfl
        clear P10 al2
        have T0 : (ensTo b k).length + [(⟨i0, bx⟩ : En)].length < 100000000 := by rw [ensTo_len]; have := HKL.out; have := HNN.out; simp; omega
        have T1 := Lib.hid (fun ops rest o a Q s x hgd ho hs hx h => appEnN (ops := ops) (rest := rest) (o := o) (a := a) (Q := Q) (w0 := w5) (W := w12.alloc (.cells #[.int .i64 i0, .bool bx.no, .int .i64 bx.lx, .int .i64 bx.ly, .int .i64 bx.hx, .int .i64 bx.hy] 57)) s x hgd ho (.slice Av nv cv) (ensTo b k) [⟨i0, bx⟩] (some ⟨w12.heap.size, 0, none⟩) 1 hs hx HED.out HCL.out HZD.out T0 h)
        have T2 : Hid (∀ v13 w13, Hid (RE 57 w5 w13 v13 (ensTo b k ++ [⟨i0, bx⟩])) → Hid ((w12.alloc (.cells #[.int .i64 i0, .bool bx.no, .int .i64 bx.lx, .int .i64 bx.ly, .int .i64 bx.hx, .int .i64 bx.hy] 57)).grownBy w13 (Value.slice Av nv cv).ownBlock) → ∃ A13 n13 c13, v13 = .slice A13 n13 c13 ∧ Hid (Blk w13 g8 #[.int .i64 l0, .slice Av nv cv] 24) ∧ Hid (Blk w13 g2 #[.int .i64 0, .slice none 0 0] 24) ∧ Hid (Src w13 q true (b.drop (2 + 40 * (k + 1))) 0) ∧ Hid (Bel w w13) ∧ Hid (w5.heap.size ≤ w13.heap.size)) := Lib.hid (fun v13 w13 hr13 hg13 => by
          obtain ⟨A13, c13, hv13, -, -⟩ := hr13.out.reads
          exact ⟨A13, _, c13, hv13, Lib.hid (Blk.far G8D.out hg13.out HNO.out.1), Lib.hid (Blk.far G2D.out hg13.out HNO.out.2), Lib.hid (Src.up HSD.out hg13.out (fun j hj => by have := HED.out.base j hj; have := HQ4.out; have := HSZ.out; omega)), Lib.hid (bel_own BD.out hg13.out (fun j hj => by have := HED.out.base j hj; have := B5.out.size; omega)), Lib.hid (Nat.le_trans HZD.out hg13.out.size)⟩)
        clear T0
        have hwk : IntKind.u8.wrap ((k : Int) + 1) = (k : Int) + 1 := by rw [IntKind.wrap_u8]; have := HKL.out; have := HNN.out; omega
        go_wp2_with (at_builtin; refine T1.out _ _ _ _ _ (.tmp 57) (.tmp 61) rfl rfl rfl rfl ?_; intro v13 w13 hr13 hg13; obtain ⟨A13, n13, c13, hv13, G8E, G2E, HSE, BE, HZE⟩ := T2.out v13 w13 hr13 hg13; subst hv13; have f1 := G8E.out.froz 1; have s3 : w13.cell? ⟨g8, 1, none⟩ = some (.slice Av nv cv) := G8E.out.cell 1 rfl; clear hg13)
        have HEF := Lib.hid (RE.set hr13.out (Kd.R_ne hr13.out G8E.out (by decide)) (.slice A13 n13 c13) (i := 1))
        have HSF := Lib.hid (Src.up HSE.out (grown_set w13 g8 1 (.slice A13 n13 c13)) (fun j hj => by cases hj; exact HG8.out.1))
        have BF := Lib.hid (below_set (i := 1) BE.out (show w.heap.size ≤ g8 by have := HG8.out; have := HQ.out; omega) (.slice A13 n13 c13))
        have G8F := Lib.hid (G8E.out.set 1 (.slice A13 n13 c13))
        have G2F := Lib.hid (G2E.out.set_ne (j := g8) (i := 1) (by have := HG8.out; have := HQ.out; omega) (.slice A13 n13 c13))
        go_roundw
        case rel => exact ⟨k + 1, A13, n13, c13, by go_num, by have := HKL.out; omega, BF, HSF, G8F, G2F, Lib.hid (by rw [ensTo, HEN.out]; exact HEF.out), HAN, Lib.hid (by have := HZE.out; simpa using this)⟩
        case measure => (have := HKL.out; simp [intOf] <;> omega)
      · have hz1 : (pe == 0) = false := by simpa using hpe
        have HPR := Lib.hid (HPB.out (k + 1) (by have := HKL.out; omega) (by rw [allOk, HAk.out, HOK.out, decide_eq_false hpe]; rfl))
        obtain ⟨u0, u1⟩ := Blk.cells2 G2C.out
        have f0 := G2C.out.froz 0; have f1 := G2C.out.froz 1
        have R9 := Lib.hid ((G2C.out.set 0 (.int .i64 0)).set 1 (.slice none 0 0))
        have B9 := Lib.hid (below_set (i := 1) (below_set (i := 0) B12.out (show w.heap.size ≤ g2 by have := HG2.out; omega) (.int .i64 0)) (show w.heap.size ≤ g2 by have := HG2.out; omega) (.slice none 0 0))
        go_wp2
        refine ⟨rfl, .tuple #[.agg #[.int .i64 0, .slice none 0 0], .int .i64 9], ?_, PAns.bad HPR.out B9.out⟩
        obtain ⟨q0, q1⟩ := Blk.cells2 R9.out
        simp [results, Try.results22, go_sem, q0, q1]
    · have : k = N := by omega
      subst this
      have HDE : Hid ((b.drop (2 + 40 * k)).length = t - (2 + 40 * k)) := Lib.hid (by rw [List.length_drop, HT.out])
      have hnl : ¬ (k : Int) < k := by omega
      obtain ⟨Ar, cr, hvr, hcr, hCr⟩ := HEk.out.reads
      rw [ensTo_len] at hvr hcr
      injection hvr with e1 e2 e3
      have e2 := e2.symm
      subst e1 e2 e3
      have HCR := Lib.hid hCr
      have HCQ := Lib.hid hcr
      have s0 : wr.cell? ⟨g8, 0, none⟩ = some (.int .i64 l0) := HGk.out.cell 0 rfl
      have s1 : wr.cell? ⟨g8, 1, none⟩ = some (.slice Av k cv) := HGk.out.cell 1 rfl
      clear hCr hcr hlt hk
      by_cases hle : t = 2 + 40 * k
      · have HEN : Hid (Calls Try.prog 58 #[.pointer (some ⟨q, 0, none⟩)] wr fun e w' => e = .returned (.int .i64 0) ∧ wr = w') := Lib.hid (end_src wr q _ 0 HSk.out (by rw [HDE.out, if_pos (by omega)]))
        have HGD : Hid (Calls Try.prog 12 #[.agg #[.int .i64 l0, .slice Av k cv]] wr fun e w' => e = .returned (.bool (goodN l0 (ensTo b k))) ∧ Bel wr w') := Lib.hid (by
          have := ngood_calls l0 Av cv (ensTo b k) wr HCR.out (ensTo_wf b k)
          rw [ensTo_len] at this
          exact this)
        have HLE := Lib.hid hle
        clear hle
        cases hgd : goodN l0 (ensTo b k)
        · rw [hgd] at HGD
          have HPR := Lib.hid (HPE.out HAk.out (.inr hgd))
          clear hgd
          go_upto_region 16 with (first
            | (go_at_call 12; refine (HGD.out).mono ?_; rintro e w20 ⟨rfl, hb20⟩)
            | (go_at_call 58; refine (HEN.out).mono ?_; rintro e w19 ⟨rfl, rfl⟩))
          have B20 := Lib.hid (bthen HBk.out hb20)
          have G20 := Lib.hid (Blk.bel HZk.out hb20)
          clear hb20 s0 s1
          obtain ⟨u0, u1⟩ := Blk.cells2 G20.out
          have f0 := G20.out.froz 0; have f1 := G20.out.froz 1
          have R9 := Lib.hid ((G20.out.set 0 (.int .i64 0)).set 1 (.slice none 0 0))
          have B9 := Lib.hid (below_set (i := 1) (below_set (i := 0) B20.out (show w.heap.size ≤ g2 by have := HG2.out; omega) (.int .i64 0)) (show w.heap.size ≤ g2 by have := HG2.out; omega) (.slice none 0 0))
          go_wp2
          refine ⟨rfl, .tuple #[.agg #[.int .i64 0, .slice none 0 0], .int .i64 9], ?_, PAns.bad HPR.out B9.out⟩
          obtain ⟨q0, q1⟩ := Blk.cells2 R9.out
          simp [results, Try.results22, go_sem, q0, q1]
        · rw [hgd] at HGD
          have HPR := Lib.hid (HPF.out HAk.out HLE.out hgd)
          clear hgd
          go_upto_region 17 with (first
            | (go_at_call 12; refine (HGD.out).mono ?_; rintro e w20 ⟨rfl, hb20⟩)
            | (go_at_call 58; refine (HEN.out).mono ?_; rintro e w19 ⟨rfl, rfl⟩))
          have B20 := Lib.hid (bthen HBk.out hb20)
          have G20 := Lib.hid (Blk.bel HZk.out hb20)
          have G8K := Lib.hid (Blk.bel HGk.out hb20)
          have HE20 := Lib.hid (HEk.out.below hb20)
          clear hb20 s0 s1
          obtain ⟨s0, s1⟩ := Blk.cells2 G8K.out
          obtain ⟨u0, u1⟩ := Blk.cells2 G20.out
          have f0 := G20.out.froz 0; have f1 := G20.out.froz 1
          have hne := Kd.R_ne HE20.out G20.out (by decide)
          have R9 := Lib.hid ((G20.out.set 0 (.int .i64 l0)).set 1 (.slice Av k cv))
          have B9 := Lib.hid (below_set (i := 1) (below_set (i := 0) B20.out (show w.heap.size ≤ g2 by have := HG2.out; omega) (.int .i64 l0)) (show w.heap.size ≤ g2 by have := HG2.out; omega) (.slice Av k cv))
          have HE21 := Lib.hid ((RE.set HE20.out (i := 0) hne (.int .i64 l0)).set (i := 1) hne (.slice Av k cv))
          clear hne
          go_wp2
          obtain ⟨A10, c10, hv10, hc10, hC10⟩ := HE21.out.reads
          rw [ensTo_len] at hv10 hc10
          injection hv10 with e1 e2 e3
          subst e1 e3
          refine ⟨rfl, .tuple #[.agg #[.int .i64 l0, .slice Av k cv], .int .i64 0], ?_, Av, cv, by rw [HPR.out, ensTo_len], Lib.hid (by rw [HPR.out, ensTo_len]; exact hc10), Lib.hid (by rw [HPR.out]; exact hC10), B9⟩
          obtain ⟨q0, q1⟩ := Blk.cells2 R9.out
          simp [results, Try.results22, go_sem, q0, q1]
      · have HEN : Hid (Calls Try.prog 58 #[.pointer (some ⟨q, 0, none⟩)] wr fun e w' => e = .returned (.int .i64 9) ∧ wr = w') := Lib.hid (end_src wr q _ 9 HSk.out (by rw [HDE.out, if_neg (by have := HNN.out; omega)]))
        have HPR := Lib.hid (HPE.out HAk.out (.inl hle))
        clear hle
        go_upto_region 16 with (go_at_call 58; refine (HEN.out).mono ?_; rintro e w19 ⟨rfl, rfl⟩)
        clear s0 s1
        obtain ⟨u0, u1⟩ := Blk.cells2 HZk.out
        have f0 := HZk.out.froz 0; have f1 := HZk.out.froz 1
        have R9 := Lib.hid ((HZk.out.set 0 (.int .i64 0)).set 1 (.slice none 0 0))
        have B9 := Lib.hid (below_set (i := 1) (below_set (i := 0) HBk.out (show w.heap.size ≤ g2 by have := HG2.out; omega) (.int .i64 0)) (show w.heap.size ≤ g2 by have := HG2.out; omega) (.slice none 0 0))
        go_wp2
        refine ⟨rfl, .tuple #[.agg #[.int .i64 0, .slice none 0 0], .int .i64 9], ?_, PAns.bad HPR.out B9.out⟩
        obtain ⟨q0, q1⟩ := Blk.cells2 R9.out
        simp [results, Try.results22, go_sem, q0, q1]

end Go.Proofs.Ytljcingmjemohaa.K
