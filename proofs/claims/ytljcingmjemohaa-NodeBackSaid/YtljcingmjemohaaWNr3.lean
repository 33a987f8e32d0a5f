/- The reference's Parse. -/
import Derived.Test.YtljcingmjemohaaKB
import Derived.Handy
import Derived.Test.YtljcingmjemohaaWNr1
namespace Go.Proofs.Ytljcingmjemohaa.K
open Go Go.RowKit Go.Proofs.YtljcingmjemohaaW.PrintWords Go.Proofs.YtljcingmjemohaaW.PrintLast Go.Proofs.YtljcingmjemohaaW.PrintMore
set_option linter.unusedVariables false
set_option linter.unusedSimpArgs false
open Go.Proofs.Ytljcingmjemohaa.MBox (Bx noneB)
open Go.Proofs.Ytljcingmjemohaa.MChoose (En En0)
open Go.Proofs.Ytljcingmjemohaa.MNd
open Go.Proofs.Ytljcingmjemohaa.MBox (has good)
open Go.Proofs.Ytljcingmjemohaa.MOct (getV)
section
variable {ops : Array Oper} {rest : List Oper} {o : Oper} {a : Act} {Q : Exit → Act → World → Prop}
theorem appEnR {w0 W : World} (s x : Operand) (hgd : o.guard = none) (ho : o.op = .call { callee := .builtin .append, args := #[s, x], argTypes := #[26, 26] })
    (v : Value) (xs ys : List En) (A : Option Addr) (c : Nat) (hs : a.eval s = v) (hx : a.eval x = .slice A ys.length c)
    (HO : RE 85 w0 W v xs) (HR : CE W A ys) (HB : w0.heap.size ≤ W.heap.size) (hl : xs.length + ys.length < 100000000)
    (h : ∀ v1 w1, Hid (RE 85 w0 w1 v1 (xs ++ ys)) → Hid (W.grownBy w1 v.ownBlock) → wpList Try.prog ops Q rest (a.put o.dst v1) w1) :
    wpList Try.prog ops Q (o :: rest) a W :=
  Kd.R_append_rows KEn (w0 := W) w0.heap.size hgd s x 26 85 (.agg #[.int .i64 0, .bool false, .int .i64 0, .int .i64 0, .int .i64 0, .int .i64 0]) 48 ho Try.underlying26 infoE rfl (by decide) (by omega) v xs ys A ys.length c (fun _ => True) (fun _ => False) hs hx HO HR
    (fun x cs hk => hk) (fun _ hk => hk.elim) (fun _ _ => trivial) (Below.refl _ _) HB (by omega) (fun v1 w1 ho hb hg hat => h v1 w1 ho hg)
end
set_option maxHeartbeats 4000000 in
set_option maxRecDepth 100000 in
theorem rparse_main (w : World) (A : Option Addr) (c : Nat) (b : List Int) (h : CB w A b) (hc : b.length ≤ c) (hb : bytesOk b) (hl : b.length < 1000000) (h1 : ¬ b.length < 2) {N : Nat} (hN : b.getD 1 0 = N) (h2 : ¬ (b.length : Int) - 2 < 40 * N) :
    Calls Try.prog 23 #[.slice A b.length c] w (PAns w b) := by
  have HC := Lib.hid h
  have HCC := Lib.hid hc
  have HBY := Lib.hid hb
  have HL := Lib.hid hl
  have Z := Blk.new w #[.int .i64 0, .slice none 0 0] 28
  have B0 : Hid (Bel w (w.alloc (.cells #[.int .i64 0, .slice none 0 0] 28))) := Lib.hid ((Bel.refl w).alloc (Nat.le_refl _) _)
  have hlt : ¬ (b.length : Int) < 2 := by omega
  have hN255 := hb _ (MOct.getD_mem b 1 (by omega))
  rw [hN] at hN255
  have HNN : Hid (N < 256 ∧ 2 + 40 * N ≤ b.length) := Lib.hid ⟨by omega, by omega⟩
  have HPB : Hid (∀ k, k ≤ N → allOk b k = false → parseN b = (0, [], 9)) := Lib.hid (fun k hk h => parse_box h1 hN h2 hk h)
  have HPE : Hid (allOk b N = true → (¬ b.length = 2 + 40 * N ∨ goodN (b.getD 0 0) (ensTo b N) = false) → parseN b = (0, [], 9)) := Lib.hid (fun h h3 => parse_end h1 hN h2 h h3)
  have HPF : Hid (allOk b N = true → b.length = 2 + 40 * N → goodN (b.getD 0 0) (ensTo b N) = true → parseN b = (b.getD 0 0, ensTo b N, 0)) := Lib.hid (fun h h3 h4 => parse_fine h1 hN h2 h h3 h4)
  have hw1 : IntKind.i64.wrap ((b.length : Int) - 2) = (b.length : Int) - 2 := IntWalk.i64_in _ (by omega)
  have hw2 : IntKind.i64.wrap (N : Int) = N := IntWalk.i64_in _ (by omega)
  have hw3 : IntKind.i64.wrap (40 * (N : Int)) = 40 * N := IntWalk.i64_in _ (by omega)
  obtain ⟨l0, hl0⟩ : ∃ x, b.getD 0 0 = x := ⟨_, rfl⟩
  have hl0r := hb _ (MOct.getD_mem b 0 (by omega))
  rw [hl0] at hl0r HPE HPF
  have HW4 : Hid (IntKind.i64.wrap l0 = l0) := Lib.hid (IntWalk.i64_in _ (by omega))
  obtain ⟨ad, hA, hcell⟩ := h.at_ 0 (by omega)
  subst hA
  obtain ⟨bk, off, rfl, _⟩ := add_none hcell
  have HX0 : Hid (∀ W', Bel w W' → W'.cell? ⟨bk, off, none⟩ = some (.int .u8 l0)) := Lib.hid (fun W' hh => by
    obtain ⟨ad, e, hx⟩ := (h.below hh).at_ 0 (by omega)
    injection e with e
    subst e
    rw [hl0, add_mid, Nat.add_zero] at hx
    exact hx)
  have HX1 : Hid (∀ W', Bel w W' → W'.cell? ⟨bk, off + 1, none⟩ = some (.int .u8 N)) := Lib.hid (fun W' hh => by
    obtain ⟨ad, e, hx⟩ := (h.below hh).at_ 1 (by omega)
    injection e with e
    subst e
    rw [hN, add_mid] at hx
    exact hx)
  have hi : (1 : Int) < b.length := by omega
  have hi2 : 1 < b.length := by omega
  have hj : (0 : Int) < b.length := by omega
  have hj2 : 0 < b.length := by omega
  clear hN hcell h1 hN255 hl0 hl0r
  obtain ⟨t, ht⟩ : ∃ t, b.length = t := ⟨_, rfl⟩
  have HT := Lib.hid ht
  rw [ht] at HCC HL HNN HPE HPF hlt h2 hw1 hi hi2 hj hj2 ⊢
  clear h hc hb hl ht
  go_enter Try.func23, Try.ntmps23
  go_upto_region 1 with (fail)
  obtain ⟨W, hW⟩ : ∃ Y, w.alloc (.cells #[.int .i64 0, .slice none 0 0] 28) = Y := ⟨_, rfl⟩
  rw [hW] at Z B0 ⊢
  clear hW
  obtain ⟨g2, hg2⟩ : ∃ x, w.heap.size = x := ⟨_, rfl⟩
  have HG2 : Hid (w.heap.size = g2) := Lib.hid hg2
  rw [hg2] at Z ⊢
  clear hg2
  have G2 := Lib.hid Z
  clear Z
  have x1 := HX1.out W B0.out
  have x0 := HX0.out W B0.out
  have hw4 := HW4.out
  go_upto_region 3 with (fail)
  clear h2 hw1 hlt x1
  have G4 := Blk.new W #[.int .i64 l0, .slice none 0 0] 28
  have al := (Bel.refl W).alloc (Nat.le_refl _) (.cells #[.int .i64 l0, .slice none 0 0] 28)
  have B5 := Lib.hid (bthen B0.out al)
  have G25 := Lib.hid (Blk.bel G2.out al)
  have hg24 := G2.out.lt
  go_upto_region 4 with (fail)
  obtain ⟨w5, hW⟩ : ∃ Y, W.alloc (.cells #[.int .i64 l0, .slice none 0 0] 28) = Y := ⟨_, rfl⟩
  rw [hW] at G4 B5 G25 ⊢
  clear hW x0 hw4 al hj hj2
  obtain ⟨g4, hg4⟩ : ∃ x, W.heap.size = x := ⟨_, rfl⟩
  rw [hg4] at G4 hg24 ⊢
  have HG4 : Hid (g2 < g4 ∧ g4 < w5.heap.size) := Lib.hid ⟨hg24, G4.lt⟩
  have HGG := Lib.hid G4
  clear hg4 hg24 G4
  go_wp2
  go_loopw [5] (fun cnt wr => ∃ (k : Nat) (Av : Option Addr) (nv cv : Nat), cnt = .int .i64 k ∧ k ≤ N ∧ Hid (Bel w wr) ∧ Hid (Blk wr g4 #[.int .i64 l0, .slice Av nv cv] 28) ∧ Hid (Blk wr g2 #[.int .i64 0, .slice none 0 0] 28) ∧ Hid (RE 85 w5 wr (.slice Av nv cv) (ensTo b k)) ∧ Hid (allOk b k = true) ∧ Hid (w5.heap.size ≤ wr.heap.size)) (fun cnt _ => N - (intOf cnt).toNat)
  case atStart => exact ⟨0, none, 0, 0, rfl, by omega, B5, HGG, G25, Lib.hid (RE.nil _ _ _), Lib.hid rfl, Lib.hid (Nat.le_refl _)⟩
  case round =>
    obtain ⟨k, Av, nv, cv, rfl, hk, HBk, HGk, HZk, HEk, HAk, HSZk⟩ := hrel
    have x1 := HX1.out wr HBk.out
    by_cases hlt : k < N
    · have HKL := Lib.hid hlt
      have hlk : (k : Int) < N := by omega
      obtain ⟨p, hp⟩ : ∃ p : Nat, p = 40 * k := ⟨_, rfl⟩
      obtain ⟨m, hm⟩ : ∃ m : Nat, m = 2 + p := ⟨_, rfl⟩
      obtain ⟨m2, hm2⟩ : ∃ m : Nat, m = 10 + p := ⟨_, rfl⟩
      obtain ⟨m3, hm3⟩ : ∃ m : Nat, m = 42 + p := ⟨_, rfl⟩
      have HM : Hid (p = 40 * k ∧ m = 2 + p ∧ m2 = 10 + p ∧ m3 = 42 + p ∧ m3 ≤ t ∧ t ≤ c ∧ t < 1000000) := Lib.hid (by have := HNN.out; have := HL.out; have := HCC.out; omega)
      have hq1 : IntKind.i64.wrap (40 * (k : Int)) = p := by rw [IntWalk.i64_in _ (by have := HM.out; omega)]; omega
      have hq2 : IntKind.i64.wrap (2 + (p : Int)) = m := by rw [IntWalk.i64_in _ (by have := HM.out; omega)]; omega
      have hq3 : IntKind.i64.wrap (10 + (p : Int)) = m2 := by rw [IntWalk.i64_in _ (by have := HM.out; omega)]; omega
      have hq4 : IntKind.i64.wrap (42 + (p : Int)) = m3 := by rw [IntWalk.i64_in _ (by have := HM.out; omega)]; omega
      have hr1 : (m : Int) ≤ t := by have := HM.out; omega
      have hr2 : (0 : Int) ≤ m := by omega
      have hr3 : ¬ c = m := by have := HM.out; omega
      have hr4 : (m2 : Int) ≤ m3 := by have := HM.out; omega
      have hr5 : (m3 : Int) ≤ c := by have := HM.out; omega
      have hr6 : ¬ c = m2 := by have := HM.out; omega
      have hr7 : m3 - m2 = 32 := by have := HM.out; omega
      have hr8 : ¬ c - m = 0 := by have := HM.out; omega
      have hr9 : ¬ c - m2 = 0 := by have := HM.out; omega
      obtain ⟨gv, hgv⟩ : ∃ x, getV (b.drop m) 8 false = x := ⟨_, rfl⟩
      have HGET : Hid (∀ W', Bel w W' → Calls Try.prog 59 #[.slice (some ⟨bk, off + m, none⟩) (t - m) (c - m), .int .i64 8, .bool false] W' fun e w' => e = .returned (.tuple #[.int .u64 gv.1, .bool gv.2]) ∧ Bel W' w') := Lib.hid (fun W' hh => by
        have h9 := (HC.out.below hh).drop m c (by rw [HT.out]; have := HM.out; omega) (by rw [HT.out]; exact HCC.out)
        rw [if_neg hr3] at h9
        have h8 : CB W' (some ⟨bk, off + m, none⟩) (b.drop m) := by simpa [add_mid] using h9
        have hlen : (b.drop m).length = t - m := by rw [List.length_drop, HT.out]
        have := ref02_Get_calls (some ⟨bk, off + m, none⟩) (c - m) (b.drop m) 8 false W' h8 (by rw [hlen]; have := HM.out; omega) (bytesOk_drop HBY.out m)
        rw [hlen, hgv] at this
        exact this.mono (fun e w' h => ⟨h.1, by rw [← h.2]; exact Bel.refl _⟩))
      obtain ⟨i0, hi0⟩ : ∃ x, rd8 (b.drop (2 + 40 * k)) = x := ⟨_, rfl⟩
      have hcv : IntKind.i64.wrap gv.1 = i0 := by
        rw [← hi0, ← hgv, hm, hp]
        unfold rd8 wrap64
        rw [IntKind.wrap_i64]
      obtain ⟨l32, hl32⟩ : ∃ x, (b.drop (10 + 40 * k)).take 32 = x := ⟨_, rfl⟩
      obtain ⟨⟨bx, pe⟩, hpx⟩ : ∃ x, parseV l32 = x := ⟨_, rfl⟩
      have HEN : Hid (enAt b k = ⟨i0, bx⟩) := Lib.hid (by unfold enAt; rw [hi0, hl32, hpx])
      have HOK : Hid (enOk b k = decide (pe = 0)) := Lib.hid (by unfold enOk; rw [hl32, hpx])
      have HBP : Hid (∀ W', Bel w W' → Calls Try.prog 60 #[.slice (some ⟨bk, off + m2, none⟩) 32 (c - m2)] W' fun e w' => e = .returned (.tuple #[.agg #[.bool bx.no, .int .i64 bx.lx, .int .i64 bx.ly, .int .i64 bx.hx, .int .i64 bx.hy], .int .i64 pe]) ∧ Bel W' w') := Lib.hid (fun W' hh => by
        have h9 := (HC.out.below hh).drop m2 c (by rw [HT.out]; have := HM.out; omega) (by rw [HT.out]; exact HCC.out)
        rw [if_neg hr6] at h9
        have hlen : (b.drop m2).length = t - m2 := by rw [List.length_drop, HT.out]
        have h8 : CB W' (some ⟨bk, off + m2, none⟩) (b.drop m2) := by simpa [add_mid] using h9
        have h7 := h8.take 32 (by rw [hlen]; have := HM.out; omega)
        have e7 : (b.drop m2).take 32 = l32 := by rw [← hl32, hm2, hp]
        rw [e7] at h7
        have e8 : l32.length = 32 := by rw [← e7, List.length_take, hlen]; have := HM.out; omega
        have := refParse_calls (some ⟨bk, off + m2, none⟩) (c - m2) l32 W' h7 (by rw [e8]; have := HM.out; omega) (by rw [e8]; omega) (fun x hx => by rw [← e7] at hx; exact HBY.out x (List.mem_of_mem_drop (List.mem_of_mem_take hx)))
        rw [e8, hpx] at this
        exact this)
      clear hgv hi0 hl32 hpx hp hm hm2 hm3
      go_upto_region 9 with (first
        | (go_at_call 60; refine (HBP.out _ (bthen HBk.out B9.out)).mono ?_; rintro e w11 ⟨rfl, hb11⟩)
        | (go_at_call 59; refine (HGET.out _ HBk.out).mono ?_; rintro e w9 ⟨rfl, hb9⟩; have B9 := Lib.hid hb9; clear hb9))
      have P10 := Blk.new w11 #[.bool bx.no, .int .i64 bx.lx, .int .i64 bx.ly, .int .i64 bx.hx, .int .i64 bx.hy] 38
      have al := bthen B9.out (bthen hb11 ((Bel.refl w11).alloc (Nat.le_refl _) (.cells #[.bool bx.no, .int .i64 bx.lx, .int .i64 bx.ly, .int .i64 bx.hx, .int .i64 bx.hy] 38)))
      have B12 := Lib.hid (bthen HBk.out al)
      have G2C := Lib.hid (Blk.bel HZk.out al)
      have G8C := Lib.hid (Blk.bel HGk.out al)
      have HEC := Lib.hid (HEk.out.below al)
      have HZC := Lib.hid (Nat.le_trans HSZk.out al.size)
      obtain ⟨w12, hW⟩ : ∃ Y, w11.alloc (.cells #[.bool bx.no, .int .i64 bx.lx, .int .i64 bx.ly, .int .i64 bx.hx, .int .i64 bx.hy] 38) = Y := ⟨_, rfl⟩
      rw [hW] at P10 B12 G2C G8C HEC HZC ⊢
      obtain ⟨gb, hgb⟩ : ∃ x, w11.heap.size = x := ⟨_, rfl⟩
      rw [hgb] at P10 ⊢
      clear hW al hgb hb11 x1 hq1 hq2 hq3 hq4 hr1 hr2 hr3 hr4 hr5 hr6 hr7 hr8 hr9 hlk
      by_cases hpe : pe = 0
      · subst hpe
        have hz0 : ((0 : Int) == 0) = true := rfl
        obtain ⟨p0, p1, p2, p3, p4⟩ := Blk.cells5 P10
        have s1 : w12.cell? ⟨g4, 1, none⟩ = some (.slice Av nv cv) := G8C.out.cell 1 rfl
        have HAN : Hid (allOk b (k + 1) = true) := Lib.hid (by rw [allOk, HAk.out, HOK.out]; rfl)
        have al2 := (Bel.refl w12).alloc (Nat.le_refl _) (.cells #[.int .i64 i0, .bool bx.no, .int .i64 bx.lx, .int .i64 bx.ly, .int .i64 bx.hx, .int .i64 bx.hy] 85)
        have HCL : Hid (CE (w12.alloc (.cells #[.int .i64 i0, .bool bx.no, .int .i64 bx.lx, .int .i64 bx.ly, .int .i64 bx.hx, .int .i64 bx.hy] 85)) (some ⟨w12.heap.size, 0, none⟩) [⟨i0, bx⟩]) := Lib.hid (CE.one (x := ⟨i0, bx⟩) (Blk.new w12 #[.int .i64 i0, .bool bx.no, .int .i64 bx.lx, .int .i64 bx.ly, .int .i64 bx.hx, .int .i64 bx.hy] 85))
        have HED := Lib.hid (HEC.out.below al2)
        have BD := Lib.hid (bthen B12.out al2)
        have G2D := Lib.hid (Blk.bel G2C.out al2)
        have G8D := Lib.hid (Blk.bel G8C.out al2)
        have HZD := Lib.hid (Nat.le_trans HZC.out al2.size)
        have HNO : Hid (some g4 ≠ (Value.slice Av nv cv).ownBlock ∧ some g2 ≠ (Value.slice Av nv cv).ownBlock) := Lib.hid ⟨Kd.R_ne HED.out G8D.out (by decide), Kd.R_ne HED.out G2D.out (by decide)⟩
        have s2 : (w12.alloc (.cells #[.int .i64 i0, .bool bx.no, .int .i64 bx.lx, .int .i64 bx.ly, .int .i64 bx.hx, .int .i64 bx.hy] 85)).cell? ⟨g4, 1, none⟩ = some (.slice Av nv cv) := G8D.out.cell 1 rfl
        have T0 : (ensTo b k).length + [(⟨i0, bx⟩ : En)].length < 100000000 := by rw [ensTo_len]; have := HKL.out; have := HNN.out; simp; omega
        have T1 := Lib.hid (fun ops rest o a Q s x hgd ho hs hx h => appEnR (ops := ops) (rest := rest) (o := o) (a := a) (Q := Q) (w0 := w5) (W := w12.alloc (.cells #[.int .i64 i0, .bool bx.no, .int .i64 bx.lx, .int .i64 bx.ly, .int .i64 bx.hx, .int .i64 bx.hy] 85)) s x hgd ho (.slice Av nv cv) (ensTo b k) [⟨i0, bx⟩] (some ⟨w12.heap.size, 0, none⟩) 1 hs hx HED.out HCL.out HZD.out T0 h)
        have T2 : Hid (∀ v13 w13, Hid (RE 85 w5 w13 v13 (ensTo b k ++ [⟨i0, bx⟩])) → Hid ((w12.alloc (.cells #[.int .i64 i0, .bool bx.no, .int .i64 bx.lx, .int .i64 bx.ly, .int .i64 bx.hx, .int .i64 bx.hy] 85)).grownBy w13 (Value.slice Av nv cv).ownBlock) → ∃ A13 n13 c13, v13 = .slice A13 n13 c13 ∧ Hid (Blk w13 g4 #[.int .i64 l0, .slice Av nv cv] 28) ∧ Hid (Blk w13 g2 #[.int .i64 0, .slice none 0 0] 28) ∧ Hid (Bel w w13) ∧ Hid (w5.heap.size ≤ w13.heap.size)) := Lib.hid (fun v13 w13 hr13 hg13 => by
          obtain ⟨A13, c13, hv13, -, -⟩ := hr13.out.reads
          exact ⟨A13, _, c13, hv13, Lib.hid (Blk.far G8D.out hg13.out HNO.out.1), Lib.hid (Blk.far G2D.out hg13.out HNO.out.2), Lib.hid (bel_own BD.out hg13.out (fun j hj => by have := HED.out.base j hj; have := B5.out.size; omega)), Lib.hid (Nat.le_trans HZD.out hg13.out.size)⟩)
        clear T0 P10 al2
        have hwk : IntKind.i64.wrap ((k : Int) + 1) = (k : Int) + 1 := IntWalk.i64_in _ (by have := HM.out; omega)
        go_wp2_with (at_builtin; refine T1.out _ _ _ _ _ (.tmp 63) (.tmp 68) rfl rfl rfl rfl ?_; intro v13 w13 hr13 hg13; obtain ⟨A13, n13, c13, hv13, G8E, G2E, BE, HZE⟩ := T2.out v13 w13 hr13 hg13; subst hv13; have f1 := G8E.out.froz 1; have s3 : w13.cell? ⟨g4, 1, none⟩ = some (.slice Av nv cv) := G8E.out.cell 1 rfl; clear hg13)
        have HEF := Lib.hid (RE.set hr13.out (Kd.R_ne hr13.out G8E.out (by decide)) (.slice A13 n13 c13) (i := 1))
        have BF := Lib.hid (below_set (i := 1) BE.out (show w.heap.size ≤ g4 by have := HG4.out; have := HG2.out; omega) (.slice A13 n13 c13))
        have G8F := Lib.hid (G8E.out.set 1 (.slice A13 n13 c13))
        have G2F := Lib.hid (G2E.out.set_ne (j := g4) (i := 1) (by have := HG4.out; omega) (.slice A13 n13 c13))
        go_roundw
        case rel => exact ⟨k + 1, A13, n13, c13, by go_num, by have := HKL.out; omega, BF, G8F, G2F, Lib.hid (by rw [ensTo, HEN.out]; exact HEF.out), HAN, Lib.hid (by have := HZE.out; simpa using this)⟩
        case measure => (have := HKL.out; simp [intOf] <;> omega)
      · have hz1 : (pe == 0) = false := by simpa using hpe
        have HPR := Lib.hid (HPB.out (k + 1) (by have := HKL.out; omega) (by rw [allOk, HAk.out, HOK.out, decide_eq_false hpe]; rfl))
        obtain ⟨u0, u1⟩ := Blk.cells2 G2C.out
        have f0 := G2C.out.froz 0; have f1 := G2C.out.froz 1
        have R9 := Lib.hid ((G2C.out.set 0 (.int .i64 0)).set 1 (.slice none 0 0))
        have B9 := Lib.hid (below_set (i := 1) (below_set (i := 0) B12.out (show w.heap.size ≤ g2 by have := HG2.out; omega) (.int .i64 0)) (show w.heap.size ≤ g2 by have := HG2.out; omega) (.slice none 0 0))
        go_wp2
        refine ⟨rfl, .tuple #[.agg #[.int .i64 0, .slice none 0 0], .int .i64 9], ?_, PAns.bad HPR.out B9.out⟩
        obtain ⟨q0, q1⟩ := Blk.cells2 R9.out
        simp [results, Try.results23, go_sem, q0, q1]
    · have : k = N := by omega
      subst this
      have hnl : ¬ (k : Int) < k := by omega
      obtain ⟨Ar, cr, hvr, hcr, hCr⟩ := HEk.out.reads
      rw [ensTo_len] at hvr hcr
      injection hvr with e1 e2 e3
      have e2 := e2.symm
      subst e1 e2 e3
      have HCR := Lib.hid hCr
      have HCQ := Lib.hid hcr
      have s0 : wr.cell? ⟨g4, 0, none⟩ = some (.int .i64 l0) := HGk.out.cell 0 rfl
      have s1 : wr.cell? ⟨g4, 1, none⟩ = some (.slice Av k cv) := HGk.out.cell 1 rfl
      obtain ⟨e40, he40⟩ : ∃ p : Nat, p = 2 + 40 * k := ⟨_, rfl⟩
      have hq2 : IntKind.i64.wrap (2 + 40 * (k : Int)) = (e40 : Int) := by rw [IntWalk.i64_in _ (by have := HNN.out; omega)]; omega
      clear hCr hcr hlt hk
      by_cases hle : t = 2 + 40 * k
      · have hte : ((t : Int) == (e40 : Int)) = true := by simp; omega
        have htn : ((t : Int) != (e40 : Int)) = false := by simp; omega
        have HGD : Hid (Calls Try.prog 13 #[.agg #[.int .i64 l0, .slice Av k cv]] wr fun e w' => e = .returned (.bool (goodN l0 (ensTo b k))) ∧ Bel wr w') := Lib.hid (by
          have := rgood_calls l0 Av cv (ensTo b k) wr HCR.out (by rw [ensTo_len]; exact HCQ.out)
          rw [ensTo_len] at this
          exact this)
        have HLE := Lib.hid hle
        clear hle he40
        cases hgd : goodN l0 (ensTo b k)
        · rw [hgd] at HGD
          have HPR := Lib.hid (HPE.out HAk.out (.inr hgd))
          clear hgd
          go_upto_region 13 with (go_at_call 13; refine (HGD.out).mono ?_; rintro e w20 ⟨rfl, hb20⟩)
          have B20 := Lib.hid (bthen HBk.out hb20)
          have G20 := Lib.hid (Blk.bel HZk.out hb20)
          clear hb20 s0 s1 x1
          obtain ⟨u0, u1⟩ := Blk.cells2 G20.out
          have f0 := G20.out.froz 0; have f1 := G20.out.froz 1
          have R9 := Lib.hid ((G20.out.set 0 (.int .i64 0)).set 1 (.slice none 0 0))
          have B9 := Lib.hid (below_set (i := 1) (below_set (i := 0) B20.out (show w.heap.size ≤ g2 by have := HG2.out; omega) (.int .i64 0)) (show w.heap.size ≤ g2 by have := HG2.out; omega) (.slice none 0 0))
          go_wp2
          refine ⟨rfl, .tuple #[.agg #[.int .i64 0, .slice none 0 0], .int .i64 9], ?_, PAns.bad HPR.out B9.out⟩
          obtain ⟨q0, q1⟩ := Blk.cells2 R9.out
          simp [results, Try.results23, go_sem, q0, q1]
        · rw [hgd] at HGD
          have HPR := Lib.hid (HPF.out HAk.out HLE.out hgd)
          clear hgd
          go_upto_region 14 with (go_at_call 13; refine (HGD.out).mono ?_; rintro e w20 ⟨rfl, hb20⟩)
          have B20 := Lib.hid (bthen HBk.out hb20)
          have G20 := Lib.hid (Blk.bel HZk.out hb20)
          have G8K := Lib.hid (Blk.bel HGk.out hb20)
          have HE20 := Lib.hid (HEk.out.below hb20)
          clear hb20 s0 s1 x1
          obtain ⟨s0, s1⟩ := Blk.cells2 G8K.out
          obtain ⟨u0, u1⟩ := Blk.cells2 G20.out
          have f0 := G20.out.froz 0; have f1 := G20.out.froz 1
          have hne := Kd.R_ne HE20.out G20.out (by decide)
          have R9 := Lib.hid ((G20.out.set 0 (.int .i64 l0)).set 1 (.slice Av k cv))
          have B9 := Lib.hid (below_set (i := 1) (below_set (i := 0) B20.out (show w.heap.size ≤ g2 by have := HG2.out; omega) (.int .i64 l0)) (show w.heap.size ≤ g2 by have := HG2.out; omega) (.slice Av k cv))
          have HE21 := Lib.hid ((RE.set HE20.out (i := 0) hne (.int .i64 l0)).set (i := 1) hne (.slice Av k cv))
          clear hne
          go_wp2
          obtain ⟨A10, c10, hv10, hc10, hC10⟩ := HE21.out.reads
          rw [ensTo_len] at hv10 hc10
          injection hv10 with e1 e2 e3
          subst e1 e3
          refine ⟨rfl, .tuple #[.agg #[.int .i64 l0, .slice Av k cv], .int .i64 0], ?_, Av, cv, by rw [HPR.out, ensTo_len], Lib.hid (by rw [HPR.out, ensTo_len]; exact hc10), Lib.hid (by rw [HPR.out]; exact hC10), B9⟩
          obtain ⟨q0, q1⟩ := Blk.cells2 R9.out
          simp [results, Try.results23, go_sem, q0, q1]
      · have hte : ((t : Int) == (e40 : Int)) = false := by simp; omega
        have htn : ((t : Int) != (e40 : Int)) = true := by simp; omega
        have HPR := Lib.hid (HPE.out HAk.out (.inl hle))
        clear hle he40
        go_upto_region 13 with (fail)
        clear s0 s1 x1
        obtain ⟨u0, u1⟩ := Blk.cells2 HZk.out
        have f0 := HZk.out.froz 0; have f1 := HZk.out.froz 1
        have R9 := Lib.hid ((HZk.out.set 0 (.int .i64 0)).set 1 (.slice none 0 0))
        have B9 := Lib.hid (below_set (i := 1) (below_set (i := 0) HBk.out (show w.heap.size ≤ g2 by have := HG2.out; omega) (.int .i64 0)) (show w.heap.size ≤ g2 by have := HG2.out; omega) (.slice none 0 0))
        go_wp2
        refine ⟨rfl, .tuple #[.agg #[.int .i64 0, .slice none 0 0], .int .i64 9], ?_, PAns.bad HPR.out B9.out⟩
        obtain ⟨q0, q1⟩ := Blk.cells2 R9.out
        simp [results, Try.results23, go_sem, q0, q1]

end Go.Proofs.Ytljcingmjemohaa.K
