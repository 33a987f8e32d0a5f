/- What a claim leans on, part 36, cut by a program out of the texts RD3. -/
import Derived.Handy
import Derived.IntWalk
import Derived.Deep.RegionLaw
import Derived.Test.YtfknhpgelleenaaDoorZB4
import Derived.Test.YtfknhpgelleenaaDoorZB6
import Derived.Test.YtfknhpgelleenaaDoorZB18
import Derived.Test.YtfknhpgelleenaaDoorZB35
section
namespace Go.Proofs.YtfknhpgelleenaaDoor.K
open Go Go.RowKit Go.Proofs.YtfknhpgelleenaaDoorW.PrintWords Go.Proofs.YtfknhpgelleenaaDoorW.PrintLast Go.Proofs.YtfknhpgelleenaaDoorW.PrintMore
set_option linter.unusedVariables false
set_option linter.unusedSimpArgs false
open Go.Proofs.YtfknhpgelleenaaDoor.MShape (Sh)
open Go.Proofs.YtfknhpgelleenaaDoor.MRead (Rs runS ringsS ringsN numberS)
set_option maxHeartbeats 16000000 in
set_option maxRecDepth 100000 in
theorem rings_calls {W : World} {g q gs : Nat} {l : List Int} {p n : Int} (h : Gd W g q l p n) (o : Bool) {kd : Int} {A1 : Option Addr} {n1 c1 : Nat} (hs : Blk W gs #[.int .i64 kd, .slice A1 n1 c1, .slice none 0 0] 25) (hg : g ≠ gs) (hq : q ≠ gs) :
    Calls Tryd.prog 98 #[.pointer (some ⟨g, 0, none⟩), .pointer (some ⟨gs, 0, none⟩), .bool o] W fun ex W' => ∃ A c sh, ex = .returned (.tuple #[]) ∧ Hid (Blk W' gs #[.int .i64 kd, .slice A1 n1 c1, .slice A sh.length c] 25) ∧ Hid (RS W.heap.size W' (.slice A sh.length c) sh) ∧ Hid (Ans W' g q (ringsN o l p n) sh) ∧ Hid (Thr W W' g q gs) := by
  have HNUM := Lib.hid (numN4_any h o)
  have HS := Lib.hid hs
  have HNE : Hid ((g ≠ gs ∧ q ≠ gs) ∧ g < W.heap.size ∧ q < W.heap.size ∧ gs < W.heap.size) := Lib.hid ⟨⟨hg, hq⟩, h.lt.1, h.lt.2, hs.lt⟩
  obtain ⟨R, hR⟩ : ∃ R, ringsN o l p n = R := ⟨_, rfl⟩
  rw [hR] at HNUM ⊢
  obtain ⟨B, hB⟩ : ∃ B, W.heap.size = B := ⟨_, rfl⟩
  rw [hB] at HNE ⊢
  have HB := Lib.hid hB
  clear h hs hg hq hR hB
  go_enter Tryd.func98, Tryd.ntmps98
  go_wp2_with (go_at_call 117; refine (HNUM.out).mono ?_; rintro e w1 ⟨j0, rfl, HJ, h1, t1⟩)
  go_loopw [6] (fun i wr => ∃ (j : Nat) (A : Option Addr) (c : Nat) (acc : List Sh), i = .int .i64 j ∧ Hid (acc.length + j ≤ 1000) ∧ Hid (Blk wr gs #[.int .i64 kd, .slice A1 n1 c1, .slice A acc.length c] 25) ∧ Hid (RS B wr (.slice A acc.length c) acc) ∧ Hid (Lp (ringsS o) R wr g q j acc) ∧ Hid (Thr W wr g q gs)) (fun i _ => (intOf i).toNat)
  case atStart => exact ⟨j0, none, 0, [], rfl, Lib.hid (by have := HJ.out; simp; omega), Lib.hid (HS.out.two t1.out HNE.out.1.1 HNE.out.1.2), Lib.hid (Kd.R_nil _ _ _ _ _), h1, Lib.hid (Thr.of_two gs t1.out)⟩
  case round =>
    obtain ⟨j, A, c, acc, rfl, HJJ, HG, HR, HL, HT⟩ := hrel
    by_cases hj : j = 0
    · subst hj
      go_wp2
      go_end0
      exact ⟨A, c, acc, rfl, HG, HR, Lib.hid (by
        rcases HL.out with ⟨l, p, n, h, e⟩ | ⟨c, h, e⟩
        · rw [← e]; exact ⟨rfl, h⟩
        · rw [e]; exact h), HT⟩
    rcases HL.out with ⟨l', p', n', hgd, hF⟩ | ⟨cc, hbad, hF⟩
    · have hgt : (0 : Int) < j := by omega
      have HF := Lib.hid hF
      have HD := Lib.hid hgd
      have hw : IntKind.i64.wrap ((j : Int) - 1) = (j : Int) - 1 := IntWalk.i64_in _ (by have := HJJ.out; omega)
      have HJ0 := Lib.hid hj
      clear hgd hF hj
      go_upto_region 3 with (go_at_call 75; refine (HD.out.ok).mono ?_; rintro e w2 ⟨rfl, g2, t2⟩)
      have G2 := HG.out.two t2.out HNE.out.1.1 HNE.out.1.2
      have s2 : w2.cell? ⟨gs, 2, none⟩ = some (.slice A acc.length c) := G2.cell 2 rfl
      have hgs2 : gs < w2.heap.size := G2.lt
      have R2 := Lib.hid (R_two HR.out t2.out HNE.out.2.1 HNE.out.2.2.1)
      have Z2 : Hid (B ≤ w2.heap.size) := Lib.hid (by have := (HT.out.trans (Thr.of_two gs t2.out)).2.2.2.1; have := HB.out; omega)
      have HG2 := Lib.hid G2
      have HLEN : Hid (acc.length + 1 < 1000000) := Lib.hid (by have := HJJ.out; have := HJ0.out; omega)
      have hll : ((acc.length : Nat) : Int) < (acc.length : Int) + 1 := by omega
      clear G2
      go_region_law (first
        | (refine stepL rfl (appZsh (B := B) (.tmp 24) (.tmp 31) rfl rfl (.slice A acc.length c) acc w7.heap.size rfl rfl (Blk.new w7 _ _) (Kd.R_below R7.out ((Below.refl _ w7).alloc (Nat.le_refl _) (.cells #[.int .i64 0, .slice none 0 0, .slice none 0 0] 25))) (Nat.le_trans Z7.out ((Below.refl _ w7).alloc (Nat.le_refl _) (.cells #[.int .i64 0, .slice none 0 0, .slice none 0 0] 25)).size) HLEN.out ?_)
           intro v8 w8 h8 b8 gr8
           have RV := Lib.hid ((Kd.R_below R7.out ((Below.refl _ w7).alloc (Nat.le_refl _) (.cells #[.int .i64 0, .slice none 0 0, .slice none 0 0] 25))))
           have PV := Lib.hid ((Kd.R_below P7.out ((Below.refl _ w7).alloc (Nat.le_refl _) (.cells #[.int .i64 0, .slice none 0 0, .slice none 0 0] 25))))
           have AV := Lib.hid ((a7.out.under ((Below.refl _ w7).alloc (Nat.le_refl _) (.cells #[.int .i64 0, .slice none 0 0, .slice none 0 0] 25)) (by have := HNE.out; have := Z7.out; omega) (by have := HNE.out; have := Z7.out; omega)))
           have TV := Lib.hid ((T7.out.trans (Two.of_bel g q ((Bel.refl w7).alloc (Nat.le_refl _) (.cells #[.int .i64 0, .slice none 0 0, .slice none 0 0] 25)))))
           have GV := Lib.hid ((Blk.alloc HG7.out (.cells #[.int .i64 0, .slice none 0 0, .slice none 0 0] 25)))
           have ZV := Lib.hid ((Nat.le_trans Z7.out ((Below.refl _ w7).alloc (Nat.le_refl _) (.cells #[.int .i64 0, .slice none 0 0, .slice none 0 0] 25)).size))
           obtain ⟨g8, cap8, d0, d1, d2, hv8, hcap, hBg, hlt8, hcur, hf8, e0, e1, e2⟩ := h8.out.opens
           subst hv8
           have Y8 : Blk w8 gs #[.int .i64 kd, .slice A1 n1 c1, .slice A acc.length c] 25 := (b8.out.block gs HNE.out.2.2.2).trans GV.out
           have y2 : w8.cell? ⟨gs, 2, none⟩ = some (.slice A acc.length c) := Y8.cell 2 rfl
           have f8 := Y8.froz 2
           have fz0 := hf8 (acc.length * 3)
           have fz1 := hf8 (acc.length * 3 + 1)
           have fz2 := hf8 (acc.length * 3 + 2)
           have HY8 := Lib.hid Y8
           have HCUR := Lib.hid hcur
           have HBG := Lib.hid hBg
           have hne1 : ¬ gs = g8 := by have := HNE.out; omega
           have hne2 : ¬ g8 = gs := by have := HNE.out; omega
           clear hf8 Y8 hcur hBg
           refine ⟨rfl, ?_⟩)
        | (refine stepL rfl (appZsh (B := B) (.tmp 24) (.tmp 31) rfl rfl (.slice A acc.length c) acc w2.heap.size rfl rfl N7.out R7.out Z7.out HLEN.out ?_)
           intro v8 w8 h8 b8 gr8
           have RV := Lib.hid (R7.out)
           have PV := Lib.hid (P7.out)
           have AV := Lib.hid (a7.out)
           have TV := Lib.hid (T7.out)
           have GV := Lib.hid (HG7.out)
           have ZV := Lib.hid (Z7.out)
           obtain ⟨g8, cap8, d0, d1, d2, hv8, hcap, hBg, hlt8, hcur, hf8, e0, e1, e2⟩ := h8.out.opens
           subst hv8
           have Y8 : Blk w8 gs #[.int .i64 kd, .slice A1 n1 c1, .slice A acc.length c] 25 := (b8.out.block gs HNE.out.2.2.2).trans GV.out
           have y2 : w8.cell? ⟨gs, 2, none⟩ = some (.slice A acc.length c) := Y8.cell 2 rfl
           have f8 := Y8.froz 2
           have fz0 := hf8 (acc.length * 3)
           have fz1 := hf8 (acc.length * 3 + 1)
           have fz2 := hf8 (acc.length * 3 + 2)
           have HY8 := Lib.hid Y8
           have HCUR := Lib.hid hcur
           have HBG := Lib.hid hBg
           have hne1 : ¬ gs = g8 := by have := HNE.out; omega
           have hne2 : ¬ g8 = gs := by have := HNE.out; omega
           clear hf8 Y8 hcur hBg
           refine ⟨rfl, ?_⟩)
        | (go_simp; first
            | (go_at_call 96; refine (rpts_calls _ _ _ _).mono ?_; rintro e w9 ⟨rfl, rfl⟩)
            | (go_at_call 97; refine (run_any g2.out (Bel.drew _) o).mono ?_; rintro e w7 ⟨A7, c7, pts7, rfl, r7, a7, t7⟩
               have T7 := Lib.hid ((Two.of_bel g q (Bel.drew w2)).trans t7.out)
               have G7 := HG2.out.two T7.out HNE.out.1.1 HNE.out.1.2
               have q2 : w7.cell? ⟨gs, 2, none⟩ = some (.slice A acc.length c) := G7.cell 2 rfl
               have qs : gs < w7.heap.size := G7.lt
               have HG7 := Lib.hid G7
               have R7 := Lib.hid (R_two R2.out T7.out HNE.out.2.1 HNE.out.2.2.1)
               have P7 := Lib.hid (Kd.R_lower r7.out Z2.out)
               have Z7 : Hid (B ≤ w7.heap.size) := Lib.hid (Nat.le_trans Z2.out T7.out.2.2.2.1)
               clear G7 r7)
            | (go_at_call 97; refine (run_any g2.out (bthen ((Bel.refl w2).alloc (Nat.le_refl _) _) (Bel.drew _)) o).mono ?_; rintro e w7 ⟨A7, c7, pts7, rfl, r7, a7, t7⟩
               have T7 := Lib.hid ((Two.of_bel g q (bthen ((Bel.refl w2).alloc (Nat.le_refl _) (.cells #[.int .i64 0, .slice none 0 0, .slice none 0 0] 25)) (Bel.drew _))).trans t7.out)
               have G7 := HG2.out.two T7.out HNE.out.1.1 HNE.out.1.2
               have q2 : w7.cell? ⟨gs, 2, none⟩ = some (.slice A acc.length c) := G7.cell 2 rfl
               have qs : gs < w7.heap.size := G7.lt
               have HG7 := Lib.hid G7
               have R7 := Lib.hid (R_two R2.out T7.out HNE.out.2.1 HNE.out.2.2.1)
               have P7 := Lib.hid (Kd.R_lower r7.out Z2.out)
               have Z7 : Hid (B ≤ w7.heap.size) := Lib.hid (Nat.le_trans Z2.out T7.out.2.2.2.1)
               have N7 := Lib.hid (Blk.two (Blk.bel (Blk.new w2 #[.int .i64 0, .slice none 0 0, .slice none 0 0] 25) (Bel.drew _)) t7.out (by have := HNE.out; have := Z2.out; omega) (by have := HNE.out; have := Z2.out; omega))
               clear G7 r7)))
      all_goals
        have HMk := Lib.hid (ring_M (B' := B) h8.out RV.out PV.out gr8.out)
        have L8 := Lib.hid (ring_Lp HF.out HJ0.out (AV.out.under b8.out HNE.out.2.1 HNE.out.2.2.1))
        have T8 : Hid (Thr W w8 g q gs) := Lib.hid (((HT.out.trans (Thr.of_two gs t2.out)).trans (Thr.of_two gs TV.out)).under b8.out (by have := HB.out; omega))
        first
          | (obtain ⟨W9, hW⟩ : ∃ X, (((w8.setCell ⟨g8, acc.length * 3, none⟩ (.int .i64 0)).setCell ⟨g8, acc.length * 3 + 1, none⟩ (.slice A7 pts7.length c7)).setCell ⟨g8, acc.length * 3 + 2, none⟩ (.slice none 0 0)).setCell ⟨gs, 2, none⟩ (.slice (some ⟨g8, 0, none⟩) (acc.length + 1) cap8) = X := ⟨_, rfl⟩
             rw [hW]
             have HST := Lib.hid (row_step (W9 := W9) (B := B) (g := g) (q := q) (V := w8) h8.out HMk.out (fun k hk _ => hk) HY8.out HBG.out HNE.out.2.2.2 HNE.out.2.1 HNE.out.2.2.1 HNE.out.1.1 HNE.out.1.2 (.inl hW.symm))
             clear hW)
          | (obtain ⟨W9, hW⟩ : ∃ X, (((w8.setCell ⟨gs, 2, none⟩ (.slice (some ⟨g8, 0, none⟩) (acc.length + 1) cap8)).setCell ⟨g8, acc.length * 3, none⟩ (.int .i64 0)).setCell ⟨g8, acc.length * 3 + 1, none⟩ (.slice A7 pts7.length c7)).setCell ⟨g8, acc.length * 3 + 2, none⟩ (.slice none 0 0) = X := ⟨_, rfl⟩
             rw [hW]
             have HST := Lib.hid (row_step (W9 := W9) (B := B) (g := g) (q := q) (V := w8) h8.out HMk.out (fun k hk _ => hk) HY8.out HBG.out HNE.out.2.2.2 HNE.out.2.1 HNE.out.2.2.1 HNE.out.1.1 HNE.out.1.2 (.inr hW.symm))
             clear hW)
        clear e0 e1 e2 y2 f8 fz0 fz1 fz2 s2 q2 hne1 hne2 hll
        go_wp2
        go_roundw
        case rel => exact ⟨j - 1, some ⟨g8, 0, none⟩, cap8, acc ++ [.mk 0 pts7 []], by rw [show ((j - 1 : Nat) : Int) = (j : Int) - 1 by have := HJ0.out; omega], Lib.hid (by have := HJJ.out; have := HJ0.out; simp; omega), Lib.hid HST.out.1, Lib.hid HST.out.2.1, Lib.hid (HST.out.2.2.1 _ _ _ _ L8.out), Lib.hid (HST.out.2.2.2 W (by have := HB.out; omega) T8.out)⟩
        case measure => have := HJ0.out; simp [intOf]; omega
    · have hgt : (0 : Int) < j := by omega
      have HF := Lib.hid hF
      have HD := Lib.hid hbad
      clear hbad hF hj
      go_wp2_with (go_at_call 75; refine (HD.out.ok).mono ?_; rintro e w2 ⟨rfl, g2, t2⟩)
      go_end0
      exact ⟨A, c, acc, rfl, Lib.hid (HG.out.two t2.out HNE.out.1.1 HNE.out.1.2), Lib.hid (R_two HR.out t2.out HNE.out.2.1 HNE.out.2.2.1), Lib.hid (by rw [HF.out]; exact g2.out.1), Lib.hid (HT.out.trans (Thr.of_two gs t2.out))⟩
end Go.Proofs.YtfknhpgelleenaaDoor.K
namespace Go.Proofs.YtfknhpgelleenaaDoor.K
open Go Go.RowKit Go.Proofs.YtfknhpgelleenaaDoorW.PrintWords Go.Proofs.YtfknhpgelleenaaDoorW.PrintLast Go.Proofs.YtfknhpgelleenaaDoorW.PrintMore
set_option linter.unusedVariables false
set_option linter.unusedSimpArgs false
open Go.Proofs.YtfknhpgelleenaaDoor.MShape (Sh)
open Go.Proofs.YtfknhpgelleenaaDoor.MOct (getV)
open Go.Proofs.YtfknhpgelleenaaDoor.MRead (Rs shapeS)
theorem Gd.byte {W : World} {g q : Nat} {b : Int} {l : List Int} {p n : Int} (h : Gd W g q (b :: l) p n) :
    Calls Tryd.prog 92 #[.pointer (some ⟨q, 0, none⟩)] W fun ex W' => ex = .returned (.int .u8 b) ∧ Hid (Gd W' g q l p n) ∧ Hid (Two W W' g q) := by
  have hb := h.rd.byt b (by simp)
  have e1 : getV (b :: l) 1 false = (b, true) := by
    unfold getV
    rw [if_neg (by simp; omega)]
    show (MOct.num [b], true) = (b, true)
    simp [MOct.num]
  have e : numS true (b :: l) 0 1 false = (b, l, 0) := by
    unfold numS
    rw [if_neg (by simp), if_neg (by omega), e1]
    rfl
  refine (Byte_calls W q true (b :: l) 0 h.rd.src h.rd.byt).mono ?_
  rw [e]
  rintro ex W1 ⟨rfl, h1, h2⟩
  have hw : IntKind.u8.wrap b = b := by rw [IntKind.wrap_u8]; omega
  exact ⟨by rw [hw], Lib.hid ⟨h.rd.src' h1 h2 (fun x hx => h.rd.byt x (by simp [hx])), h.p0, h.p1, h.n0, h.n1, by have := h.len; simp at this; omega⟩, Lib.hid (Two.of_q g h1)⟩
theorem Gd.bytent {W : World} {g q : Nat} {p n : Int} (h : Gd W g q [] p n) :
    Calls Tryd.prog 92 #[.pointer (some ⟨q, 0, none⟩)] W fun ex W' => ex = .returned (.int .u8 0) ∧ Hid (Bad W' g q 8) ∧ Hid (Two W W' g q) := by
  refine (Byte_calls W q true [] 0 h.rd.src h.rd.byt).mono ?_
  rw [numS_no false (by omega) (by simp)]
  rintro ex W1 ⟨rfl, h1, h2⟩
  exact ⟨by rw [show IntKind.u8.wrap ((0 : Int), ([] : List Int), (8 : Int)).1 = 0 by rfl], Lib.hid (Bad.mk' (h.rd.src' h1 h2 bytesOk_nil) rfl (by decide)), Lib.hid (Two.of_q g h1)⟩
theorem Gd.setS {W : World} {g q s i : Nat} {l : List Int} {p n : Int} (h : Gd W g q l p n) {kd : Int} {A1 A2 : Option Addr} {n1 c1 n2 c2 : Nat} (hs : Blk W s #[.int .i64 kd, .slice A1 n1 c1, .slice A2 n2 c2] 25) (hg : g ≠ s) (hq : q ≠ s) (u : Value) : Gd (W.setCell ⟨s, i, none⟩ u) g q l p n :=
  ⟨h.rd.setS hs hg hq u, h.p0, h.p1, h.n0, h.n1, h.len⟩
theorem Bad.setS {W : World} {g q s i : Nat} {c : Int} (h : Bad W g q c) {kd : Int} {A1 A2 : Option Addr} {n1 c1 n2 c2 : Nat} (hs : Blk W s #[.int .i64 kd, .slice A1 n1 c1, .slice A2 n2 c2] 25) (hg : g ≠ s) (hq : q ≠ s) (u : Value) : Bad (W.setCell ⟨s, i, none⟩ u) g q c := by
  obtain ⟨hc, l, se, e, p, n, h, he⟩ := h
  exact ⟨hc, l, se, e, p, n, h.setS hs hg hq u, he⟩
theorem Two.setS {a b : World} {g k s i : Nat} (h : Two a b g k) (hs : a.heap.size ≤ s) (u : Value) : Two a (b.setCell ⟨s, i, none⟩ u) g k :=
  ⟨h.1, h.2.1, h.2.2.1, by simpa using h.2.2.2.1, fun j hj hg hk => (Below.heap_setCell b ⟨s, i, none⟩ u j (fun e => by have : j = s := e; omega)).trans (h.2.2.2.2 j hj hg hk)⟩
theorem zsh_M (W : World) (B : Nat) : KW.M W B (fun _ => True) zsh [.int .i64 0, .slice none 0 0, .slice none 0 0] := MW.of (Kd.R_nil _ _ _ _ _) (Kd.R_nil _ _ _ _ _)
/-- What the reader's shape answers, at one state. -/
abbrev RdA (W : World) (g q : Nat) (R : Rs Sh) (ex : Ending) (W' : World) : Prop := ∃ k0 B1 m1 e1 B2 m2 e2 sh, ex = .returned (.iface 109 (.agg #[.int .i64 k0, .slice B1 m1 e1, .slice B2 m2 e2])) ∧
      Hid (KW.M W' W.heap.size (fun _ => True) sh [.int .i64 k0, .slice B1 m1 e1, .slice B2 m2 e2]) ∧ Hid (Ans W' g q R sh) ∧ Hid (Two W W' g q)
set_option maxHeartbeats 2000000 in
set_option maxRecDepth 100000 in
theorem shape_nil {W : World} {g q : Nat} {p n : Int} (h : Gd W g q [] p n) (kind d : Int) :
    Calls Tryd.prog 74 #[.pointer (some ⟨g, 0, none⟩), .int .i64 kind, .int .i64 d] W (RdA W g q (.bad 8)) := by
  have HBY := Lib.hid h.bytent
  have c0 := h.c0
  clear h
  go_enter Tryd.func74, Tryd.ntmps74
  go_upto_region 3 with (go_at_call 92; refine (HBY.out).mono ?_; rintro e w1 ⟨rfl, g1, t1⟩)
  have HB : Hid (Bel w1 (w1.alloc (.cells #[.int .i64 0, .slice none 0 0, .slice none 0 0] 25))) := Lib.hid ((Bel.refl w1).alloc (Nat.le_refl _) _)
  obtain ⟨w2, hW⟩ : ∃ X, w1.alloc (.cells #[.int .i64 0, .slice none 0 0, .slice none 0 0] 25) = X := ⟨_, rfl⟩
  rw [hW] at HB ⊢
  clear hW
  go_wp2_with (go_at_call 75; refine ((g1.out.bel HB.out).ok).mono ?_; rintro e w3 ⟨rfl, g3, t3⟩)
  go_ret
  exact ⟨_, _, _, _, _, _, _, zsh, rfl, Lib.hid (zsh_M _ _), Lib.hid g3.out.1, Lib.hid ((t1.out.trans (Two.of_bel g q HB.out)).trans t3.out)⟩
set_option maxHeartbeats 2000000 in
set_option maxRecDepth 100000 in
theorem shape_deep {W : World} {g q : Nat} {b : Int} {l : List Int} {p n : Int} (h : Gd W g q (b :: l) p n) (kind d : Int) (hd : 16 < d) :
    Calls Tryd.prog 74 #[.pointer (some ⟨g, 0, none⟩), .int .i64 kind, .int .i64 d] W (RdA W g q (.bad 10)) := by
  have HBY := Lib.hid h.byte
  have c0 := h.c0
  have HNE : Hid (g < W.heap.size ∧ q < W.heap.size) := Lib.hid ⟨h.lt.1, h.lt.2⟩
  have H2 : Hid (2 ≤ g ∧ 2 ≤ q) := Lib.hid ⟨h.rd.g2, h.rd.q2⟩
  have hdd : decide (d ≤ 16) = false := by simpa using hd
  clear h
  go_enter Tryd.func74, Tryd.ntmps74
  go_upto_region 3 with (go_at_call 92; refine (HBY.out).mono ?_; rintro e w1 ⟨rfl, g1, t1⟩)
  have S := Blk.new w1 #[.int .i64 0, .slice none 0 0, .slice none 0 0] 25
  have HB : Hid (Bel w1 (w1.alloc (.cells #[.int .i64 0, .slice none 0 0, .slice none 0 0] 25))) := Lib.hid ((Bel.refl w1).alloc (Nat.le_refl _) _)
  obtain ⟨w2, hW⟩ : ∃ X, w1.alloc (.cells #[.int .i64 0, .slice none 0 0, .slice none 0 0] 25) = X := ⟨_, rfl⟩
  rw [hW] at S HB ⊢
  clear hW
  have HGS : Hid (W.heap.size ≤ w1.heap.size) := Lib.hid t1.out.2.2.2.1
  obtain ⟨gs, hgs⟩ : ∃ x, w1.heap.size = x := ⟨_, rfl⟩
  rw [hgs] at S HGS ⊢
  clear hgs
  have g2 := Lib.hid (g1.out.bel HB.out)
  have T2 := Lib.hid (t1.out.trans (Two.of_bel g q HB.out))
  have S2 := Lib.hid S
  clear S
  go_wp2_with (first
    | (go_at_call 93; refine (g3.out.mustnt 10 (by decide)).mono ?_; rintro e w4 ⟨rfl, g4, t4⟩)
    | (go_at_call 75; refine (g2.out.ok).mono ?_; rintro e w3 ⟨rfl, g3, t3⟩))
  go_ret
  exact ⟨_, _, _, _, _, _, _, zsh, rfl, Lib.hid (zsh_M _ _), g4, Lib.hid ((T2.out.trans t3.out).trans t4.out)⟩
set_option maxHeartbeats 2000000 in
set_option maxRecDepth 100000 in
theorem shape_order {W : World} {g q : Nat} {b : Int} {l : List Int} {p n : Int} (h : Gd W g q (b :: l) p n) (kind d : Int) (hd : d ≤ 16) (hb : b > 1) :
    Calls Tryd.prog 74 #[.pointer (some ⟨g, 0, none⟩), .int .i64 kind, .int .i64 d] W (RdA W g q (.bad 9)) := by
  have HBY := Lib.hid h.byte
  have c0 := h.c0
  have HNE : Hid (g < W.heap.size ∧ q < W.heap.size) := Lib.hid ⟨h.lt.1, h.lt.2⟩
  have H2 : Hid (2 ≤ g ∧ 2 ≤ q) := Lib.hid ⟨h.rd.g2, h.rd.q2⟩
  have hdd : decide (d ≤ 16) = true := by simpa using hd
  have hbb : decide (b ≤ 1) = false := by simpa using hb
  clear hb
  clear h
  go_enter Tryd.func74, Tryd.ntmps74
  go_upto_region 3 with (go_at_call 92; refine (HBY.out).mono ?_; rintro e w1 ⟨rfl, g1, t1⟩)
  have S := Blk.new w1 #[.int .i64 0, .slice none 0 0, .slice none 0 0] 25
  have HB : Hid (Bel w1 (w1.alloc (.cells #[.int .i64 0, .slice none 0 0, .slice none 0 0] 25))) := Lib.hid ((Bel.refl w1).alloc (Nat.le_refl _) _)
  obtain ⟨w2, hW⟩ : ∃ X, w1.alloc (.cells #[.int .i64 0, .slice none 0 0, .slice none 0 0] 25) = X := ⟨_, rfl⟩
  rw [hW] at S HB ⊢
  clear hW
  have HGS : Hid (W.heap.size ≤ w1.heap.size) := Lib.hid t1.out.2.2.2.1
  obtain ⟨gs, hgs⟩ : ∃ x, w1.heap.size = x := ⟨_, rfl⟩
  rw [hgs] at S HGS ⊢
  clear hgs
  have g2 := Lib.hid (g1.out.bel HB.out)
  have T2 := Lib.hid (t1.out.trans (Two.of_bel g q HB.out))
  have S2 := Lib.hid S
  clear S
  go_wp2_with (first
    | (go_at_call 93; refine (g4.out.mustnt 9 (by decide)).mono ?_; rintro e w5 ⟨rfl, g5, t5⟩)
    | (go_at_call 93; refine (g3.out.must 10).mono ?_; rintro e w4 ⟨rfl, g4, t4⟩)
    | (go_at_call 75; refine (g2.out.ok).mono ?_; rintro e w3 ⟨rfl, g3, t3⟩))
  go_ret
  exact ⟨_, _, _, _, _, _, _, zsh, rfl, Lib.hid (zsh_M _ _), g5, Lib.hid (((T2.out.trans t3.out).trans t4.out).trans t5.out)⟩
set_option maxHeartbeats 2000000 in
set_option maxRecDepth 100000 in
theorem shape_short {W : World} {g q : Nat} {b : Int} {l : List Int} {p n : Int} (h : Gd W g q (b :: l) p n) (kind d : Int) (o : Bool) (hd : d ≤ 16) (hb : b ≤ 1) (ho : decide (b = 1) = o) (hl : l.length < 4) :
    Calls Tryd.prog 74 #[.pointer (some ⟨g, 0, none⟩), .int .i64 kind, .int .i64 d] W (RdA W g q (.bad 8)) := by
  have HBY := Lib.hid h.byte
  have c0 := h.c0
  have HNE : Hid (g < W.heap.size ∧ q < W.heap.size) := Lib.hid ⟨h.lt.1, h.lt.2⟩
  have H2 : Hid (2 ≤ g ∧ 2 ≤ q) := Lib.hid ⟨h.rd.g2, h.rd.q2⟩
  have hdd : decide (d ≤ 16) = true := by simpa using hd
  have hbb : decide (b ≤ 1) = true := by simpa using hb
  have hoo : decide (b = 1) = o := ho
  have hoo2 : (b == 1) = o := by rw [← ho]; by_cases e : b = 1 <;> simp [e]
  clear hb hd
  have HL := Lib.hid hl
  clear hl
  clear h
  go_enter Tryd.func74, Tryd.ntmps74
  go_upto_region 3 with (go_at_call 92; refine (HBY.out).mono ?_; rintro e w1 ⟨rfl, g1, t1⟩)
  have S := Blk.new w1 #[.int .i64 0, .slice none 0 0, .slice none 0 0] 25
  have HB : Hid (Bel w1 (w1.alloc (.cells #[.int .i64 0, .slice none 0 0, .slice none 0 0] 25))) := Lib.hid ((Bel.refl w1).alloc (Nat.le_refl _) _)
  obtain ⟨w2, hW⟩ : ∃ X, w1.alloc (.cells #[.int .i64 0, .slice none 0 0, .slice none 0 0] 25) = X := ⟨_, rfl⟩
  rw [hW] at S HB ⊢
  clear hW
  have HGS : Hid (W.heap.size ≤ w1.heap.size) := Lib.hid t1.out.2.2.2.1
  obtain ⟨gs, hgs⟩ : ∃ x, w1.heap.size = x := ⟨_, rfl⟩
  rw [hgs] at S HGS ⊢
  clear hgs
  have g2 := Lib.hid (g1.out.bel HB.out)
  have T2 := Lib.hid (t1.out.trans (Two.of_bel g q HB.out))
  have S2 := Lib.hid S
  clear S
  go_upto_region 6 with (first
    | (go_at_call 93; refine (g4.out.must 9).mono ?_; rintro e w5 ⟨rfl, g5, t5⟩)
    | (go_at_call 93; refine (g3.out.must 10).mono ?_; rintro e w4 ⟨rfl, g4, t4⟩)
    | (go_at_call 75; refine (g2.out.ok).mono ?_; rintro e w3 ⟨rfl, g3, t3⟩))
  have c5 := g5.out.c0
  have T5 := Lib.hid (((T2.out.trans t3.out).trans t4.out).trans t5.out)
  have S5 := Lib.hid (((S2.out.two t3.out (by have := HNE.out; have := HGS.out; omega) (by have := HNE.out; have := HGS.out; omega)).two t4.out (by have := HNE.out; have := HGS.out; omega) (by have := HNE.out; have := HGS.out; omega)).two t5.out (by have := HNE.out; have := HGS.out; omega) (by have := HNE.out; have := HGS.out; omega))
  go_upto_region 7 with (go_at_call 94; refine (g5.out.numnt o HL.out).mono ?_; rintro e w6 ⟨rfl, g6, t6⟩
                         have S6 := S5.out.two t6.out (by have := HNE.out; have := HGS.out; omega) (by have := HNE.out; have := HGS.out; omega)
                         have s0 : w6.cell? ⟨gs, 0, none⟩ = some (.int .i64 0) := S6.cell 0 rfl
                         have f0 := S6.froz 0
                         have HS6 := Lib.hid S6
                         clear S6)
  have S7 : Blk (w6.setCell ⟨gs, 0, none⟩ (.int .i64 0)) gs #[.int .i64 0, .slice none 0 0, .slice none 0 0] 25 := HS6.out.set 0 _
  have g7 := Lib.hid (g6.out.setS (i := 0) HS6.out (by have := HNE.out; have := HGS.out; omega) (by have := HNE.out; have := HGS.out; omega) (.int .i64 0))
  have T7 := Lib.hid ((T5.out.trans t6.out).setS (s := gs) (i := 0) HGS.out (.int .i64 0))
  obtain ⟨w7, hW⟩ : ∃ X, w6.setCell ⟨gs, 0, none⟩ (.int .i64 0) = X := ⟨_, rfl⟩
  rw [hW] at S7 g7 T7 ⊢
  clear hW s0 f0
  have s0 : w7.cell? ⟨gs, 0, none⟩ = some (.int .i64 0) := S7.cell 0 rfl
  have HS7 := Lib.hid S7
  go_wp2_with (go_at_call 75; refine (g7.out.ok).mono ?_; rintro e w8 ⟨rfl, g8, t8⟩)
  go_ret
  exact ⟨_, _, _, _, _, _, _, zsh, rfl, Lib.hid (zsh_M _ _), Lib.hid g8.out.1, Lib.hid (T7.out.trans t8.out)⟩
set_option maxHeartbeats 2000000 in
set_option maxRecDepth 100000 in
theorem shape_kind {W : World} {g q : Nat} {b : Int} {l : List Int} {p n : Int} (h : Gd W g q (b :: l) p n) (kind d : Int) (o : Bool) (hd : d ≤ 16) (hb : b ≤ 1) (ho : decide (b = 1) = o) (hl : ¬ l.length < 4) (hok : ¬ MRead.okKind kind (getV l 4 o).1) :
    Calls Tryd.prog 74 #[.pointer (some ⟨g, 0, none⟩), .int .i64 kind, .int .i64 d] W (RdA W g q (.bad 9)) := by
  have HBY := Lib.hid h.byte
  have c0 := h.c0
  have HNE : Hid (g < W.heap.size ∧ q < W.heap.size) := Lib.hid ⟨h.lt.1, h.lt.2⟩
  have H2 : Hid (2 ≤ g ∧ 2 ≤ q) := Lib.hid ⟨h.rd.g2, h.rd.q2⟩
  have hdd : decide (d ≤ 16) = true := by simpa using hd
  have hbb : decide (b ≤ 1) = true := by simpa using hb
  have hoo : decide (b = 1) = o := ho
  have hoo2 : (b == 1) = o := by rw [← ho]; by_cases e : b = 1 <;> simp [e]
  clear hb hd
  obtain ⟨-, hv0, hv1⟩ := getV4_in (l := l) (fun x hx => h.rd.byt x (by simp [hx])) o hl
  have HL := Lib.hid hl
  have HN := Lib.hid (fun (W : World) (p n : Int) (h : Gd W g q l p n) => h.num o hl)
  obtain ⟨k, hk⟩ : ∃ k, (getV l 4 o).1 = k := ⟨_, rfl⟩
  rw [hk] at HN hv0 hv1 hok
  obtain ⟨m, hm⟩ : ∃ m, l.drop 4 = m := ⟨_, rfl⟩
  rw [hm] at HN
  have hw : IntKind.i64.wrap k = k := IntWalk.i64_in _ (by omega)
  have HOK := Lib.hid hok
  clear hl hv0 hv1 hk hm hok
  clear h
  go_enter Tryd.func74, Tryd.ntmps74
  go_upto_region 3 with (go_at_call 92; refine (HBY.out).mono ?_; rintro e w1 ⟨rfl, g1, t1⟩)
  have S := Blk.new w1 #[.int .i64 0, .slice none 0 0, .slice none 0 0] 25
  have HB : Hid (Bel w1 (w1.alloc (.cells #[.int .i64 0, .slice none 0 0, .slice none 0 0] 25))) := Lib.hid ((Bel.refl w1).alloc (Nat.le_refl _) _)
  obtain ⟨w2, hW⟩ : ∃ X, w1.alloc (.cells #[.int .i64 0, .slice none 0 0, .slice none 0 0] 25) = X := ⟨_, rfl⟩
  rw [hW] at S HB ⊢
  clear hW
  have HGS : Hid (W.heap.size ≤ w1.heap.size) := Lib.hid t1.out.2.2.2.1
  obtain ⟨gs, hgs⟩ : ∃ x, w1.heap.size = x := ⟨_, rfl⟩
  rw [hgs] at S HGS ⊢
  clear hgs
  have g2 := Lib.hid (g1.out.bel HB.out)
  have T2 := Lib.hid (t1.out.trans (Two.of_bel g q HB.out))
  have S2 := Lib.hid S
  clear S
  go_upto_region 6 with (first
    | (go_at_call 93; refine (g4.out.must 9).mono ?_; rintro e w5 ⟨rfl, g5, t5⟩)
    | (go_at_call 93; refine (g3.out.must 10).mono ?_; rintro e w4 ⟨rfl, g4, t4⟩)
    | (go_at_call 75; refine (g2.out.ok).mono ?_; rintro e w3 ⟨rfl, g3, t3⟩))
  have c5 := g5.out.c0
  have T5 := Lib.hid (((T2.out.trans t3.out).trans t4.out).trans t5.out)
  have S5 := Lib.hid (((S2.out.two t3.out (by have := HNE.out; have := HGS.out; omega) (by have := HNE.out; have := HGS.out; omega)).two t4.out (by have := HNE.out; have := HGS.out; omega) (by have := HNE.out; have := HGS.out; omega)).two t5.out (by have := HNE.out; have := HGS.out; omega) (by have := HNE.out; have := HGS.out; omega))
  go_upto_region 7 with (go_at_call 94; refine (HN.out _ _ _ g5.out).mono ?_; rintro e w6 ⟨rfl, g6, t6⟩
                         have S6 := S5.out.two t6.out (by have := HNE.out; have := HGS.out; omega) (by have := HNE.out; have := HGS.out; omega)
                         have s0 : w6.cell? ⟨gs, 0, none⟩ = some (.int .i64 0) := S6.cell 0 rfl
                         have f0 := S6.froz 0
                         have HS6 := Lib.hid S6
                         clear S6)
  have S7 : Blk (w6.setCell ⟨gs, 0, none⟩ (.int .i64 k)) gs #[.int .i64 k, .slice none 0 0, .slice none 0 0] 25 := HS6.out.set 0 _
  have g7 := Lib.hid (g6.out.setS (i := 0) HS6.out (by have := HNE.out; have := HGS.out; omega) (by have := HNE.out; have := HGS.out; omega) (.int .i64 k))
  have T7 := Lib.hid ((T5.out.trans t6.out).setS (s := gs) (i := 0) HGS.out (.int .i64 k))
  obtain ⟨w7, hW⟩ : ∃ X, w6.setCell ⟨gs, 0, none⟩ (.int .i64 k) = X := ⟨_, rfl⟩
  rw [hW] at S7 g7 T7 ⊢
  clear hW s0 f0
  have s0 : w7.cell? ⟨gs, 0, none⟩ = some (.int .i64 k) := S7.cell 0 rfl
  have HS7 := Lib.hid S7
  go_cut [10] from 45 (fun v W' => v = .bool false ∧ W' = w7)
  case first =>
    have hok := HOK.out
    unfold MRead.okKind at hok
    by_cases a1 : 1 ≤ k
    · by_cases a2 : k ≤ 7
      · by_cases a3 : kind < 1
        · exact absurd ⟨⟨a1, a2⟩, .inl a3⟩ hok
        · by_cases a4 : k = kind
          · exact absurd ⟨⟨a1, a2⟩, .inr a4⟩ hok
          · clear hok; have a5 : (k == kind) = false := by simpa using a4
            clear a4; go_wp2; go_meet; exact ⟨rfl, rfl⟩
      · clear hok; go_wp2; go_meet; exact ⟨rfl, rfl⟩
    · clear hok; go_wp2; go_meet; exact ⟨rfl, rfl⟩
  case rest =>
    obtain ⟨rfl, rfl⟩ := hcut
    go_wp2_with (first
      | (go_at_call 93; refine (g8.out.mustnt 9 (by decide)).mono ?_; rintro e w9 ⟨rfl, g9, t9⟩)
      | (go_at_call 75; refine (g7.out.ok).mono ?_; rintro e w8 ⟨rfl, g8, t8⟩))
    go_ret
    exact ⟨_, _, _, _, _, _, _, zsh, rfl, Lib.hid (zsh_M _ _), g9, Lib.hid ((T7.out.trans t8.out).trans t9.out)⟩
theorem Ans.asPts {W : World} {g q : Nat} {r : Rs (List (Int × Int))} {pts : List (Int × Int)} (k : Int) (h : Ans W g q r pts) : Ans W g q (MRead.asPts k r) (.mk k pts []) := by
  unfold Ans at h ⊢
  cases r with
  | ok b l p n => exact ⟨by rw [h.1], h.2⟩
  | bad c => exact h
theorem Ans.asParts {W : World} {g q : Nat} {r : Rs (List Sh)} {ps : List Sh} (k : Int) (h : Ans W g q r ps) : Ans W g q (MRead.asParts k r) (.mk k [] ps) := by
  unfold Ans at h ⊢
  cases r with
  | ok b l p n => exact ⟨by rw [h.1], h.2⟩
  | bad c => exact h
theorem one_any {W : World} {g q : Nat} {l : List Int} {p n : Int} (h : Gd W g q l p n) (hN : NowAt W) (o : Bool) :
    Calls Tryd.prog 95 #[.pointer (some ⟨g, 0, none⟩), .bool o] W fun ex W' => ∃ A c pts, ex = .returned (.slice A pts.length c) ∧ Hid (RP W.heap.size W' (.slice A pts.length c) pts) ∧ Hid (Ans W' g q (MRead.oneS o l p n) pts) ∧ Hid (Two W W' g q) := by
  cases hr : MRead.oneS o l p n with
  | ok pts l' p' n' =>
    refine (one_ok h o hN hr).mono ?_
    rintro e W' ⟨v, rfl, h1, h2, h3⟩
    obtain ⟨A, c, rfl, -, -⟩ := Kd.R_reads h1.out
    exact ⟨A, c, pts, rfl, h1, Lib.hid ⟨rfl, h2.out⟩, h3⟩
  | bad c =>
    refine (one_bad h o hN hr).mono ?_
    rintro e W' ⟨v, rfl, h1, h2, h3⟩
    obtain ⟨pts, h1⟩ := h1.out
    obtain ⟨A, cc, rfl, -, -⟩ := Kd.R_reads h1
    exact ⟨A, cc, pts, rfl, Lib.hid h1, Lib.hid h2.out, h3⟩
set_option maxHeartbeats 2000000 in
set_option maxRecDepth 100000 in
theorem shape_pt {W : World} {g q : Nat} {b : Int} {l : List Int} {p n : Int} (h : Gd W g q (b :: l) p n) (kind d : Int) (o : Bool) (hGl : Gl W) (hd : d ≤ 16) (hb : b ≤ 1) (ho : decide (b = 1) = o) (hl : ¬ l.length < 4) (hk : (getV l 4 o).1 = 1) (hok : MRead.okKind kind (getV l 4 o).1) :
    Calls Tryd.prog 74 #[.pointer (some ⟨g, 0, none⟩), .int .i64 kind, .int .i64 d] W (RdA W g q (MRead.asPts 1 (MRead.oneS o (l.drop 4) p n))) := by
  have HBY := Lib.hid h.byte
  have c0 := h.c0
  have HNE : Hid (g < W.heap.size ∧ q < W.heap.size) := Lib.hid ⟨h.lt.1, h.lt.2⟩
  have H2 : Hid (2 ≤ g ∧ 2 ≤ q) := Lib.hid ⟨h.rd.g2, h.rd.q2⟩
  have hdd : decide (d ≤ 16) = true := by simpa using hd
  have hbb : decide (b ≤ 1) = true := by simpa using hb
  have hoo : decide (b = 1) = o := ho
  have hoo2 : (b == 1) = o := by rw [← ho]; by_cases e : b = 1 <;> simp [e]
  clear hb hd
  obtain ⟨-, hv0, hv1⟩ := getV4_in (l := l) (fun x hx => h.rd.byt x (by simp [hx])) o hl
  have HL := Lib.hid hl
  have HN := Lib.hid (fun (W : World) (p n : Int) (h : Gd W g q l p n) => h.num o hl)
  have HGL := Lib.hid hGl
  rw [hk] at HN hok
  obtain ⟨m, hm⟩ : ∃ m, l.drop 4 = m := ⟨_, rfl⟩
  rw [hm] at HN ⊢
  have HOK := Lib.hid hok
  clear hl hv0 hv1 hk hm hok hGl
  clear h
  go_enter Tryd.func74, Tryd.ntmps74
  go_upto_region 3 with (go_at_call 92; refine (HBY.out).mono ?_; rintro e w1 ⟨rfl, g1, t1⟩)
  have S := Blk.new w1 #[.int .i64 0, .slice none 0 0, .slice none 0 0] 25
  have HB : Hid (Bel w1 (w1.alloc (.cells #[.int .i64 0, .slice none 0 0, .slice none 0 0] 25))) := Lib.hid ((Bel.refl w1).alloc (Nat.le_refl _) _)
  obtain ⟨w2, hW⟩ : ∃ X, w1.alloc (.cells #[.int .i64 0, .slice none 0 0, .slice none 0 0] 25) = X := ⟨_, rfl⟩
  rw [hW] at S HB ⊢
  clear hW
  have HGS : Hid (W.heap.size ≤ w1.heap.size) := Lib.hid t1.out.2.2.2.1
  obtain ⟨gs, hgs⟩ : ∃ x, w1.heap.size = x := ⟨_, rfl⟩
  rw [hgs] at S HGS ⊢
  clear hgs
  have g2 := Lib.hid (g1.out.bel HB.out)
  have T2 := Lib.hid (t1.out.trans (Two.of_bel g q HB.out))
  have S2 := Lib.hid S
  clear S
  go_upto_region 6 with (first
    | (go_at_call 93; refine (g4.out.must 9).mono ?_; rintro e w5 ⟨rfl, g5, t5⟩)
    | (go_at_call 93; refine (g3.out.must 10).mono ?_; rintro e w4 ⟨rfl, g4, t4⟩)
    | (go_at_call 75; refine (g2.out.ok).mono ?_; rintro e w3 ⟨rfl, g3, t3⟩))
  have c5 := g5.out.c0
  have T5 := Lib.hid (((T2.out.trans t3.out).trans t4.out).trans t5.out)
  have S5 := Lib.hid (((S2.out.two t3.out (by have := HNE.out; have := HGS.out; omega) (by have := HNE.out; have := HGS.out; omega)).two t4.out (by have := HNE.out; have := HGS.out; omega) (by have := HNE.out; have := HGS.out; omega)).two t5.out (by have := HNE.out; have := HGS.out; omega) (by have := HNE.out; have := HGS.out; omega))
  go_upto_region 7 with (go_at_call 94; refine (HN.out _ _ _ g5.out).mono ?_; rintro e w6 ⟨rfl, g6, t6⟩
                         have S6 := S5.out.two t6.out (by have := HNE.out; have := HGS.out; omega) (by have := HNE.out; have := HGS.out; omega)
                         have s0 : w6.cell? ⟨gs, 0, none⟩ = some (.int .i64 0) := S6.cell 0 rfl
                         have f0 := S6.froz 0
                         have HS6 := Lib.hid S6
                         clear S6)
  have S7 : Blk (w6.setCell ⟨gs, 0, none⟩ (.int .i64 1)) gs #[.int .i64 1, .slice none 0 0, .slice none 0 0] 25 := HS6.out.set 0 _
  have g7 := Lib.hid (g6.out.setS (i := 0) HS6.out (by have := HNE.out; have := HGS.out; omega) (by have := HNE.out; have := HGS.out; omega) (.int .i64 1))
  have T7 := Lib.hid ((T5.out.trans t6.out).setS (s := gs) (i := 0) HGS.out (.int .i64 1))
  obtain ⟨w7, hW⟩ : ∃ X, w6.setCell ⟨gs, 0, none⟩ (.int .i64 1) = X := ⟨_, rfl⟩
  rw [hW] at S7 g7 T7 ⊢
  clear hW s0 f0
  have s0 : w7.cell? ⟨gs, 0, none⟩ = some (.int .i64 1) := S7.cell 0 rfl
  have HS7 := Lib.hid S7
  go_cut [10] from 45 (fun v W' => v = .bool true ∧ W' = w7)
  case first =>
    have hok := HOK.out
    by_cases a3 : kind < 1
    · clear hok
      go_wp2
      go_meet
      exact ⟨rfl, rfl⟩
    · have a4 : kind = 1 := by
        rcases hok with ⟨_, h | h⟩
        · exact absurd h a3
        · exact h.symm
      subst a4
      clear hok
      go_wp2
      go_meet
      exact ⟨rfl, rfl⟩
  case rest =>
    obtain ⟨rfl, rfl⟩ := hcut
    go_upto_region 10 with (first
      | (go_at_call 93; refine (g8.out.must 9).mono ?_; rintro e w9 ⟨rfl, g9, t9⟩)
      | (go_at_call 75; refine (g7.out.ok).mono ?_; rintro e w8 ⟨rfl, g8, t8⟩))
    have T9 := Lib.hid ((T7.out.trans t8.out).trans t9.out)
    have S9 := (HS7.out.two t8.out (by have := HNE.out; have := HGS.out; omega) (by have := HNE.out; have := HGS.out; omega)).two t9.out (by have := HNE.out; have := HGS.out; omega) (by have := HNE.out; have := HGS.out; omega)
    have GL9 : Hid (Gl w9) := Lib.hid (HGL.out.two T9.out H2.out.1 H2.out.2)
    have s0 : w9.cell? ⟨gs, 0, none⟩ = some (.int .i64 1) := S9.cell 0 rfl
    have HS9 := Lib.hid S9
    clear S9
    go_upto_region 18 with (go_at_call 95; refine (one_any g9.out GL9.out.2.1 o).mono ?_; rintro e w10 ⟨A, c, pts, rfl, r10, a10, t10⟩
                            have S10 := HS9.out.two t10.out (by have := HNE.out; have := HGS.out; omega) (by have := HNE.out; have := HGS.out; omega)
                            have s1 : w10.cell? ⟨gs, 1, none⟩ = some (.slice none 0 0) := S10.cell 1 rfl
                            have f1 := S10.froz 1
                            have HS10 := Lib.hid S10
                            clear S10)
    obtain ⟨np, hnp⟩ : ∃ x, pts.length = x := ⟨_, rfl⟩
    have R11 : Hid (RP W.heap.size (w10.setCell ⟨gs, 1, none⟩ (.slice A pts.length c)) (.slice A pts.length c) pts) := Lib.hid (Kd.R_lower (Kd.R_mono (Kd.R_far (p := ⟨gs, 1, none⟩) (Kd.R_bound r10.out) (fun k hk => by have := hk.2.1; have := HS9.out.lt; show k ≠ gs; omega) _) (fun k hk => trivial)) T9.out.2.2.2.1)
    have S11 : Blk (w10.setCell ⟨gs, 1, none⟩ (.slice A pts.length c)) gs #[.int .i64 1, .slice A pts.length c, .slice none 0 0] 25 := HS10.out.set 1 _
    have A11 := Lib.hid ((a10.out.setS (i := 1) HS10.out (by have := HNE.out; have := HGS.out; omega) (by have := HNE.out; have := HGS.out; omega) (.slice A pts.length c)).asPts 1)
    have T11 := Lib.hid ((T9.out.trans t10.out).setS (s := gs) (i := 1) HGS.out (.slice A pts.length c))
    obtain ⟨w11, hW⟩ : ∃ X, w10.setCell ⟨gs, 1, none⟩ (.slice A pts.length c) = X := ⟨_, rfl⟩
    rw [hW] at R11 S11 A11 T11 ⊢
    clear hW s0 s1 f1 hnp
    obtain ⟨s0, s1, s2⟩ := Blk.cells3 S11
    go_wp2
    go_ret
    exact ⟨_, _, _, _, _, _, _, .mk 1 pts [], rfl, Lib.hid (MW.of R11.out (Kd.R_nil _ _ _ _ _)), A11, T11⟩
set_option maxHeartbeats 2000000 in
set_option maxRecDepth 100000 in
theorem shape_ln {W : World} {g q : Nat} {b : Int} {l : List Int} {p n : Int} (h : Gd W g q (b :: l) p n) (kind d : Int) (o : Bool) (hGl : Gl W) (hd : d ≤ 16) (hb : b ≤ 1) (ho : decide (b = 1) = o) (hl : ¬ l.length < 4) (hk : (getV l 4 o).1 = 2) (hok : MRead.okKind kind (getV l 4 o).1) :
    Calls Tryd.prog 74 #[.pointer (some ⟨g, 0, none⟩), .int .i64 kind, .int .i64 d] W (RdA W g q (MRead.asPts 2 (MRead.runS o (l.drop 4) p n))) := by
  have HBY := Lib.hid h.byte
  have c0 := h.c0
  have HNE : Hid (g < W.heap.size ∧ q < W.heap.size) := Lib.hid ⟨h.lt.1, h.lt.2⟩
  have H2 : Hid (2 ≤ g ∧ 2 ≤ q) := Lib.hid ⟨h.rd.g2, h.rd.q2⟩
  have hdd : decide (d ≤ 16) = true := by simpa using hd
  have hbb : decide (b ≤ 1) = true := by simpa using hb
  have hoo : decide (b = 1) = o := ho
  have hoo2 : (b == 1) = o := by rw [← ho]; by_cases e : b = 1 <;> simp [e]
  clear hb hd
  obtain ⟨-, hv0, hv1⟩ := getV4_in (l := l) (fun x hx => h.rd.byt x (by simp [hx])) o hl
  have HL := Lib.hid hl
  have HN := Lib.hid (fun (W : World) (p n : Int) (h : Gd W g q l p n) => h.num o hl)
  have HGL := Lib.hid hGl
  rw [hk] at HN hok
  obtain ⟨m, hm⟩ : ∃ m, l.drop 4 = m := ⟨_, rfl⟩
  rw [hm] at HN ⊢
  have HOK := Lib.hid hok
  clear hl hv0 hv1 hk hm hok hGl
  clear h
  go_enter Tryd.func74, Tryd.ntmps74
  go_upto_region 3 with (go_at_call 92; refine (HBY.out).mono ?_; rintro e w1 ⟨rfl, g1, t1⟩)
  have S := Blk.new w1 #[.int .i64 0, .slice none 0 0, .slice none 0 0] 25
  have HB : Hid (Bel w1 (w1.alloc (.cells #[.int .i64 0, .slice none 0 0, .slice none 0 0] 25))) := Lib.hid ((Bel.refl w1).alloc (Nat.le_refl _) _)
  obtain ⟨w2, hW⟩ : ∃ X, w1.alloc (.cells #[.int .i64 0, .slice none 0 0, .slice none 0 0] 25) = X := ⟨_, rfl⟩
  rw [hW] at S HB ⊢
  clear hW
  have HGS : Hid (W.heap.size ≤ w1.heap.size) := Lib.hid t1.out.2.2.2.1
  obtain ⟨gs, hgs⟩ : ∃ x, w1.heap.size = x := ⟨_, rfl⟩
  rw [hgs] at S HGS ⊢
  clear hgs
  have g2 := Lib.hid (g1.out.bel HB.out)
  have T2 := Lib.hid (t1.out.trans (Two.of_bel g q HB.out))
  have S2 := Lib.hid S
  clear S
  go_upto_region 6 with (first
    | (go_at_call 93; refine (g4.out.must 9).mono ?_; rintro e w5 ⟨rfl, g5, t5⟩)
    | (go_at_call 93; refine (g3.out.must 10).mono ?_; rintro e w4 ⟨rfl, g4, t4⟩)
    | (go_at_call 75; refine (g2.out.ok).mono ?_; rintro e w3 ⟨rfl, g3, t3⟩))
  have c5 := g5.out.c0
  have T5 := Lib.hid (((T2.out.trans t3.out).trans t4.out).trans t5.out)
  have S5 := Lib.hid (((S2.out.two t3.out (by have := HNE.out; have := HGS.out; omega) (by have := HNE.out; have := HGS.out; omega)).two t4.out (by have := HNE.out; have := HGS.out; omega) (by have := HNE.out; have := HGS.out; omega)).two t5.out (by have := HNE.out; have := HGS.out; omega) (by have := HNE.out; have := HGS.out; omega))
  go_upto_region 7 with (go_at_call 94; refine (HN.out _ _ _ g5.out).mono ?_; rintro e w6 ⟨rfl, g6, t6⟩
                         have S6 := S5.out.two t6.out (by have := HNE.out; have := HGS.out; omega) (by have := HNE.out; have := HGS.out; omega)
                         have s0 : w6.cell? ⟨gs, 0, none⟩ = some (.int .i64 0) := S6.cell 0 rfl
                         have f0 := S6.froz 0
                         have HS6 := Lib.hid S6
                         clear S6)
  have S7 : Blk (w6.setCell ⟨gs, 0, none⟩ (.int .i64 2)) gs #[.int .i64 2, .slice none 0 0, .slice none 0 0] 25 := HS6.out.set 0 _
  have g7 := Lib.hid (g6.out.setS (i := 0) HS6.out (by have := HNE.out; have := HGS.out; omega) (by have := HNE.out; have := HGS.out; omega) (.int .i64 2))
  have T7 := Lib.hid ((T5.out.trans t6.out).setS (s := gs) (i := 0) HGS.out (.int .i64 2))
  obtain ⟨w7, hW⟩ : ∃ X, w6.setCell ⟨gs, 0, none⟩ (.int .i64 2) = X := ⟨_, rfl⟩
  rw [hW] at S7 g7 T7 ⊢
  clear hW s0 f0
  have s0 : w7.cell? ⟨gs, 0, none⟩ = some (.int .i64 2) := S7.cell 0 rfl
  have HS7 := Lib.hid S7
  go_cut [10] from 45 (fun v W' => v = .bool true ∧ W' = w7)
  case first =>
    have hok := HOK.out
    by_cases a3 : kind < 1
    · clear hok
      go_wp2
      go_meet
      exact ⟨rfl, rfl⟩
    · have a4 : kind = 2 := by
        rcases hok with ⟨_, h | h⟩
        · exact absurd h a3
        · exact h.symm
      subst a4
      clear hok
      go_wp2
      go_meet
      exact ⟨rfl, rfl⟩
  case rest =>
    obtain ⟨rfl, rfl⟩ := hcut
    go_upto_region 10 with (first
      | (go_at_call 93; refine (g8.out.must 9).mono ?_; rintro e w9 ⟨rfl, g9, t9⟩)
      | (go_at_call 75; refine (g7.out.ok).mono ?_; rintro e w8 ⟨rfl, g8, t8⟩))
    have T9 := Lib.hid ((T7.out.trans t8.out).trans t9.out)
    have S9 := (HS7.out.two t8.out (by have := HNE.out; have := HGS.out; omega) (by have := HNE.out; have := HGS.out; omega)).two t9.out (by have := HNE.out; have := HGS.out; omega) (by have := HNE.out; have := HGS.out; omega)
    have GL9 : Hid (Gl w9) := Lib.hid (HGL.out.two T9.out H2.out.1 H2.out.2)
    have s0 : w9.cell? ⟨gs, 0, none⟩ = some (.int .i64 2) := S9.cell 0 rfl
    have HS9 := Lib.hid S9
    clear S9
    go_upto_region 18 with (first
                            | (go_at_call 96; refine (rpts_calls w10 _ _ _).mono ?_; rintro e w12 ⟨rfl, rfl⟩)
                            | (go_at_call 97; refine (run_any g9.out (Bel.refl _) o).mono ?_; rintro e w10 ⟨A, c, pts, rfl, r10, a10, t10⟩
                               have S10 := HS9.out.two t10.out (by have := HNE.out; have := HGS.out; omega) (by have := HNE.out; have := HGS.out; omega)
                               have s1 : w10.cell? ⟨gs, 1, none⟩ = some (.slice none 0 0) := S10.cell 1 rfl
                               have f1 := S10.froz 1
                               have HS10 := Lib.hid S10
                               clear S10))
    obtain ⟨np, hnp⟩ : ∃ x, pts.length = x := ⟨_, rfl⟩
    have R11 : Hid (RP W.heap.size (w10.setCell ⟨gs, 1, none⟩ (.slice A pts.length c)) (.slice A pts.length c) pts) := Lib.hid (Kd.R_lower (Kd.R_mono (Kd.R_far (p := ⟨gs, 1, none⟩) (Kd.R_bound r10.out) (fun k hk => by have := hk.2.1; have := HS9.out.lt; show k ≠ gs; omega) _) (fun k hk => trivial)) T9.out.2.2.2.1)
    have S11 : Blk (w10.setCell ⟨gs, 1, none⟩ (.slice A pts.length c)) gs #[.int .i64 2, .slice A pts.length c, .slice none 0 0] 25 := HS10.out.set 1 _
    have A11 := Lib.hid ((a10.out.setS (i := 1) HS10.out (by have := HNE.out; have := HGS.out; omega) (by have := HNE.out; have := HGS.out; omega) (.slice A pts.length c)).asPts 2)
    have T11 := Lib.hid ((T9.out.trans t10.out).setS (s := gs) (i := 1) HGS.out (.slice A pts.length c))
    obtain ⟨w11, hW⟩ : ∃ X, w10.setCell ⟨gs, 1, none⟩ (.slice A pts.length c) = X := ⟨_, rfl⟩
    rw [hW] at R11 S11 A11 T11 ⊢
    clear hW s0 s1 f1 hnp
    obtain ⟨s0, s1, s2⟩ := Blk.cells3 S11
    go_wp2
    go_ret
    exact ⟨_, _, _, _, _, _, _, .mk 2 pts [], rfl, Lib.hid (MW.of R11.out (Kd.R_nil _ _ _ _ _)), A11, T11⟩
set_option maxHeartbeats 2000000 in
set_option maxRecDepth 100000 in
theorem shape_pg {W : World} {g q : Nat} {b : Int} {l : List Int} {p n : Int} (h : Gd W g q (b :: l) p n) (kind d : Int) (o : Bool) (hGl : Gl W) (hd : d ≤ 16) (hb : b ≤ 1) (ho : decide (b = 1) = o) (hl : ¬ l.length < 4) (hk : (getV l 4 o).1 = 3) (hok : MRead.okKind kind (getV l 4 o).1) :
    Calls Tryd.prog 74 #[.pointer (some ⟨g, 0, none⟩), .int .i64 kind, .int .i64 d] W (RdA W g q (MRead.asParts 3 (MRead.ringsN o (l.drop 4) p n))) := by
  have HBY := Lib.hid h.byte
  have c0 := h.c0
  have HNE : Hid (g < W.heap.size ∧ q < W.heap.size) := Lib.hid ⟨h.lt.1, h.lt.2⟩
  have H2 : Hid (2 ≤ g ∧ 2 ≤ q) := Lib.hid ⟨h.rd.g2, h.rd.q2⟩
  have hdd : decide (d ≤ 16) = true := by simpa using hd
  have hbb : decide (b ≤ 1) = true := by simpa using hb
  have hoo : decide (b = 1) = o := ho
  have hoo2 : (b == 1) = o := by rw [← ho]; by_cases e : b = 1 <;> simp [e]
  clear hb hd
  obtain ⟨-, hv0, hv1⟩ := getV4_in (l := l) (fun x hx => h.rd.byt x (by simp [hx])) o hl
  have HL := Lib.hid hl
  have HN := Lib.hid (fun (W : World) (p n : Int) (h : Gd W g q l p n) => h.num o hl)
  have HGL := Lib.hid hGl
  rw [hk] at HN hok
  obtain ⟨m, hm⟩ : ∃ m, l.drop 4 = m := ⟨_, rfl⟩
  rw [hm] at HN ⊢
  have HOK := Lib.hid hok
  clear hl hv0 hv1 hk hm hok hGl
  clear h
  go_enter Tryd.func74, Tryd.ntmps74
  go_upto_region 3 with (go_at_call 92; refine (HBY.out).mono ?_; rintro e w1 ⟨rfl, g1, t1⟩)
  have S := Blk.new w1 #[.int .i64 0, .slice none 0 0, .slice none 0 0] 25
  have HB : Hid (Bel w1 (w1.alloc (.cells #[.int .i64 0, .slice none 0 0, .slice none 0 0] 25))) := Lib.hid ((Bel.refl w1).alloc (Nat.le_refl _) _)
  obtain ⟨w2, hW⟩ : ∃ X, w1.alloc (.cells #[.int .i64 0, .slice none 0 0, .slice none 0 0] 25) = X := ⟨_, rfl⟩
  rw [hW] at S HB ⊢
  clear hW
  have HGS : Hid (W.heap.size ≤ w1.heap.size) := Lib.hid t1.out.2.2.2.1
  obtain ⟨gs, hgs⟩ : ∃ x, w1.heap.size = x := ⟨_, rfl⟩
  rw [hgs] at S HGS ⊢
  clear hgs
  have g2 := Lib.hid (g1.out.bel HB.out)
  have T2 := Lib.hid (t1.out.trans (Two.of_bel g q HB.out))
  have S2 := Lib.hid S
  clear S
  go_upto_region 6 with (first
    | (go_at_call 93; refine (g4.out.must 9).mono ?_; rintro e w5 ⟨rfl, g5, t5⟩)
    | (go_at_call 93; refine (g3.out.must 10).mono ?_; rintro e w4 ⟨rfl, g4, t4⟩)
    | (go_at_call 75; refine (g2.out.ok).mono ?_; rintro e w3 ⟨rfl, g3, t3⟩))
  have c5 := g5.out.c0
  have T5 := Lib.hid (((T2.out.trans t3.out).trans t4.out).trans t5.out)
  have S5 := Lib.hid (((S2.out.two t3.out (by have := HNE.out; have := HGS.out; omega) (by have := HNE.out; have := HGS.out; omega)).two t4.out (by have := HNE.out; have := HGS.out; omega) (by have := HNE.out; have := HGS.out; omega)).two t5.out (by have := HNE.out; have := HGS.out; omega) (by have := HNE.out; have := HGS.out; omega))
  go_upto_region 7 with (go_at_call 94; refine (HN.out _ _ _ g5.out).mono ?_; rintro e w6 ⟨rfl, g6, t6⟩
                         have S6 := S5.out.two t6.out (by have := HNE.out; have := HGS.out; omega) (by have := HNE.out; have := HGS.out; omega)
                         have s0 : w6.cell? ⟨gs, 0, none⟩ = some (.int .i64 0) := S6.cell 0 rfl
                         have f0 := S6.froz 0
                         have HS6 := Lib.hid S6
                         clear S6)
  have S7 : Blk (w6.setCell ⟨gs, 0, none⟩ (.int .i64 3)) gs #[.int .i64 3, .slice none 0 0, .slice none 0 0] 25 := HS6.out.set 0 _
  have g7 := Lib.hid (g6.out.setS (i := 0) HS6.out (by have := HNE.out; have := HGS.out; omega) (by have := HNE.out; have := HGS.out; omega) (.int .i64 3))
  have T7 := Lib.hid ((T5.out.trans t6.out).setS (s := gs) (i := 0) HGS.out (.int .i64 3))
  obtain ⟨w7, hW⟩ : ∃ X, w6.setCell ⟨gs, 0, none⟩ (.int .i64 3) = X := ⟨_, rfl⟩
  rw [hW] at S7 g7 T7 ⊢
  clear hW s0 f0
  have s0 : w7.cell? ⟨gs, 0, none⟩ = some (.int .i64 3) := S7.cell 0 rfl
  have HS7 := Lib.hid S7
  go_cut [10] from 45 (fun v W' => v = .bool true ∧ W' = w7)
  case first =>
    have hok := HOK.out
    by_cases a3 : kind < 1
    · clear hok
      go_wp2
      go_meet
      exact ⟨rfl, rfl⟩
    · have a4 : kind = 3 := by
        rcases hok with ⟨_, h | h⟩
        · exact absurd h a3
        · exact h.symm
      subst a4
      clear hok
      go_wp2
      go_meet
      exact ⟨rfl, rfl⟩
  case rest =>
    obtain ⟨rfl, rfl⟩ := hcut
    go_upto_region 10 with (first
      | (go_at_call 93; refine (g8.out.must 9).mono ?_; rintro e w9 ⟨rfl, g9, t9⟩)
      | (go_at_call 75; refine (g7.out.ok).mono ?_; rintro e w8 ⟨rfl, g8, t8⟩))
    have T9 := Lib.hid ((T7.out.trans t8.out).trans t9.out)
    have S9 := (HS7.out.two t8.out (by have := HNE.out; have := HGS.out; omega) (by have := HNE.out; have := HGS.out; omega)).two t9.out (by have := HNE.out; have := HGS.out; omega) (by have := HNE.out; have := HGS.out; omega)
    have GL9 : Hid (Gl w9) := Lib.hid (HGL.out.two T9.out H2.out.1 H2.out.2)
    have s0 : w9.cell? ⟨gs, 0, none⟩ = some (.int .i64 3) := S9.cell 0 rfl
    have HS9 := Lib.hid S9
    clear S9
    go_upto_region 18 with (go_at_call 98; refine (rings_calls g9.out o HS9.out (by have := HNE.out; have := HGS.out; omega) (by have := HNE.out; have := HGS.out; omega)).mono ?_; rintro e w10 ⟨A, c, sh, rfl, s10, r10, a10, t10⟩)
    clear s0
    obtain ⟨s0, s1, s2⟩ := Blk.cells3 s10.out
    go_wp2
    go_ret
    exact ⟨_, _, _, _, _, _, _, .mk 3 [] sh, rfl, Lib.hid (MW.of (Kd.R_nil _ _ _ _ _) (Kd.R_lower r10.out T9.out.2.2.2.1)), Lib.hid (a10.out.asParts 3), Lib.hid (((Thr.of_two gs T9.out).trans t10.out).two HGS.out)⟩
set_option maxHeartbeats 2000000 in
set_option maxRecDepth 100000 in
theorem shape_gc {W : World} {g q : Nat} {b : Int} {l : List Int} {p n : Int} (h : Gd W g q (b :: l) p n) (kind d : Int) (o : Bool) (hGl : Gl W) (hd : d ≤ 16) (hd0 : 1 ≤ d ∧ d ≤ 16) (hb : b ≤ 1) (ho : decide (b = 1) = o) (hl : ¬ l.length < 4) (hk4 : 4 ≤ (getV l 4 o).1) (hok : MRead.okKind kind (getV l 4 o).1) {F : List Int → Int → Int → Rs Sh} (HSH : RdC (prt (getV l 4 o).1) (d + 1) F) :
    Calls Tryd.prog 74 #[.pointer (some ⟨g, 0, none⟩), .int .i64 kind, .int .i64 d] W (RdA W g q (MRead.asParts (getV l 4 o).1 (MRead.partsN F o (l.drop 4) p n))) := by
  have HBY := Lib.hid h.byte
  have c0 := h.c0
  have HNE : Hid (g < W.heap.size ∧ q < W.heap.size) := Lib.hid ⟨h.lt.1, h.lt.2⟩
  have H2 : Hid (2 ≤ g ∧ 2 ≤ q) := Lib.hid ⟨h.rd.g2, h.rd.q2⟩
  have hdd : decide (d ≤ 16) = true := by simpa using hd
  have hbb : decide (b ≤ 1) = true := by simpa using hb
  have hoo : decide (b = 1) = o := ho
  have hoo2 : (b == 1) = o := by rw [← ho]; by_cases e : b = 1 <;> simp [e]
  clear hb hd
  obtain ⟨-, hv0, hv1⟩ := getV4_in (l := l) (fun x hx => h.rd.byt x (by simp [hx])) o hl
  have HL := Lib.hid hl
  have HN := Lib.hid (fun (W : World) (p n : Int) (h : Gd W g q l p n) => h.num o hl)
  have HGL := Lib.hid hGl
  have HSHH := Lib.hid HSH
  have HD := Lib.hid hd0
  obtain ⟨k, hk⟩ : ∃ k, (getV l 4 o).1 = k := ⟨_, rfl⟩
  rw [hk] at HN hv0 hv1 hok hk4 HSHH ⊢
  obtain ⟨m, hm⟩ : ∃ m, l.drop 4 = m := ⟨_, rfl⟩
  rw [hm] at HN ⊢
  have hw : IntKind.i64.wrap k = k := IntWalk.i64_in _ (by omega)
  have HOK := Lib.hid hok
  have a1 : 1 ≤ k := by omega
  have a2 : k ≤ 7 := hok.1.2
  have b1 : (k == 1) = false := by simp; omega
  have b2 : (k == 2) = false := by simp; omega
  have b3 : (k == 3) = false := by simp; omega
  clear hl hv0 hv1 hk hm hok hGl HSH hd0 hk4
  clear h
  go_enter Tryd.func74, Tryd.ntmps74
  go_upto_region 3 with (go_at_call 92; refine (HBY.out).mono ?_; rintro e w1 ⟨rfl, g1, t1⟩)
  have S := Blk.new w1 #[.int .i64 0, .slice none 0 0, .slice none 0 0] 25
  have HB : Hid (Bel w1 (w1.alloc (.cells #[.int .i64 0, .slice none 0 0, .slice none 0 0] 25))) := Lib.hid ((Bel.refl w1).alloc (Nat.le_refl _) _)
  obtain ⟨w2, hW⟩ : ∃ X, w1.alloc (.cells #[.int .i64 0, .slice none 0 0, .slice none 0 0] 25) = X := ⟨_, rfl⟩
  rw [hW] at S HB ⊢
  clear hW
  have HGS : Hid (W.heap.size ≤ w1.heap.size) := Lib.hid t1.out.2.2.2.1
  obtain ⟨gs, hgs⟩ : ∃ x, w1.heap.size = x := ⟨_, rfl⟩
  rw [hgs] at S HGS ⊢
  clear hgs
  have g2 := Lib.hid (g1.out.bel HB.out)
  have T2 := Lib.hid (t1.out.trans (Two.of_bel g q HB.out))
  have S2 := Lib.hid S
  clear S
  go_upto_region 6 with (first
    | (go_at_call 93; refine (g4.out.must 9).mono ?_; rintro e w5 ⟨rfl, g5, t5⟩)
    | (go_at_call 93; refine (g3.out.must 10).mono ?_; rintro e w4 ⟨rfl, g4, t4⟩)
    | (go_at_call 75; refine (g2.out.ok).mono ?_; rintro e w3 ⟨rfl, g3, t3⟩))
  have c5 := g5.out.c0
  have T5 := Lib.hid (((T2.out.trans t3.out).trans t4.out).trans t5.out)
  have S5 := Lib.hid (((S2.out.two t3.out (by have := HNE.out; have := HGS.out; omega) (by have := HNE.out; have := HGS.out; omega)).two t4.out (by have := HNE.out; have := HGS.out; omega) (by have := HNE.out; have := HGS.out; omega)).two t5.out (by have := HNE.out; have := HGS.out; omega) (by have := HNE.out; have := HGS.out; omega))
  go_upto_region 7 with (go_at_call 94; refine (HN.out _ _ _ g5.out).mono ?_; rintro e w6 ⟨rfl, g6, t6⟩
                         have S6 := S5.out.two t6.out (by have := HNE.out; have := HGS.out; omega) (by have := HNE.out; have := HGS.out; omega)
                         have s0 : w6.cell? ⟨gs, 0, none⟩ = some (.int .i64 0) := S6.cell 0 rfl
                         have f0 := S6.froz 0
                         have HS6 := Lib.hid S6
                         clear S6)
  have S7 : Blk (w6.setCell ⟨gs, 0, none⟩ (.int .i64 k)) gs #[.int .i64 k, .slice none 0 0, .slice none 0 0] 25 := HS6.out.set 0 _
  have g7 := Lib.hid (g6.out.setS (i := 0) HS6.out (by have := HNE.out; have := HGS.out; omega) (by have := HNE.out; have := HGS.out; omega) (.int .i64 k))
  have T7 := Lib.hid ((T5.out.trans t6.out).setS (s := gs) (i := 0) HGS.out (.int .i64 k))
  obtain ⟨w7, hW⟩ : ∃ X, w6.setCell ⟨gs, 0, none⟩ (.int .i64 k) = X := ⟨_, rfl⟩
  rw [hW] at S7 g7 T7 ⊢
  clear hW s0 f0
  have s0 : w7.cell? ⟨gs, 0, none⟩ = some (.int .i64 k) := S7.cell 0 rfl
  have HS7 := Lib.hid S7
  go_cut [10] from 45 (fun v W' => v = .bool true ∧ W' = w7)
  case first =>
    have hok := HOK.out
    by_cases a3 : kind < 1
    · clear hok
      go_wp2
      go_meet
      exact ⟨rfl, rfl⟩
    · have a4 : kind = k := by
        rcases hok with ⟨_, h | h⟩
        · exact absurd h a3
        · exact h.symm
      clear HOK
      subst a4
      clear hok
      go_wp2
      go_meet
      exact ⟨rfl, rfl⟩
  case rest =>
    obtain ⟨rfl, rfl⟩ := hcut
    go_upto_region 10 with (first
      | (go_at_call 93; refine (g8.out.must 9).mono ?_; rintro e w9 ⟨rfl, g9, t9⟩)
      | (go_at_call 75; refine (g7.out.ok).mono ?_; rintro e w8 ⟨rfl, g8, t8⟩))
    have T9 := Lib.hid ((T7.out.trans t8.out).trans t9.out)
    have S9 := (HS7.out.two t8.out (by have := HNE.out; have := HGS.out; omega) (by have := HNE.out; have := HGS.out; omega)).two t9.out (by have := HNE.out; have := HGS.out; omega) (by have := HNE.out; have := HGS.out; omega)
    have GL9 : Hid (Gl w9) := Lib.hid (HGL.out.two T9.out H2.out.1 H2.out.2)
    have s0 : w9.cell? ⟨gs, 0, none⟩ = some (.int .i64 k) := S9.cell 0 rfl
    have HS9 := Lib.hid S9
    clear S9
    go_upto_region 18 with (go_at_call 99; refine (parted_calls HSHH.out (by have := HD.out; omega) g9.out GL9.out o HS9.out (by have := HNE.out; have := HGS.out; omega) (by have := HNE.out; have := HGS.out; omega) (by have := HGL.out.2.2; have := HGS.out; omega)).mono ?_; rintro e w10 ⟨A, c, sh, rfl, s10, r10, a10, t10⟩)
    clear s0
    obtain ⟨s0, s1, s2⟩ := Blk.cells3 s10.out
    go_wp2
    go_ret
    exact ⟨_, _, _, _, _, _, _, .mk k [] sh, rfl, Lib.hid (MW.of (Kd.R_nil _ _ _ _ _) (Kd.R_lower r10.out T9.out.2.2.2.1)), Lib.hid (a10.out.asParts k), Lib.hid (((Thr.of_two gs T9.out).trans t10.out).two HGS.out)⟩
/-- wkb's reader: a shape. -/
theorem rshape_calls : ∀ (f : Nat) (kind d : Int), (f : Int) + d = 17 → 1 ≤ d → RdC kind d (shapeS f kind) := by
  intro f
  induction f with
  | zero =>
    intro kind d hf hd W g q l p n h hGl
    cases l with
    | nil => exact shape_nil h kind d
    | cons b l => exact shape_deep h kind d (by omega)
  | succ f ih =>
    intro kind d hf hd W g q l p n h hGl
    cases l with
    | nil => exact shape_nil h kind d
    | cons b l =>
      show Calls _ _ _ _ (RdA W g q (if b > 1 then Rs.bad 9 else MRead.kindS (shapeS f) kind (decide (b = 1)) l p n))
      by_cases hb : b > 1
      · rw [if_pos hb]
        exact shape_order h kind d (by omega) hb
      rw [if_neg hb]
      unfold MRead.kindS
      by_cases hl : l.length < 4
      · rw [if_pos hl]
        exact shape_short h kind d _ (by omega) (by omega) rfl hl
      rw [if_neg hl]
      by_cases hok : MRead.okKind kind (getV l 4 (decide (b = 1))).1
      · rw [if_pos hok]
        unfold MRead.bodyS
        by_cases k1 : (getV l 4 (decide (b = 1))).1 = 1
        · rw [if_pos k1]
          exact shape_pt h kind d _ hGl (by omega) (by omega) rfl hl k1 hok
        rw [if_neg k1]
        by_cases k2 : (getV l 4 (decide (b = 1))).1 = 2
        · rw [if_pos k2]
          exact shape_ln h kind d _ hGl (by omega) (by omega) rfl hl k2 hok
        rw [if_neg k2]
        by_cases k3 : (getV l 4 (decide (b = 1))).1 = 3
        · rw [if_pos k3]
          exact shape_pg h kind d _ hGl (by omega) (by omega) rfl hl k3 hok
        rw [if_neg k3]
        exact shape_gc h kind d _ hGl (by omega) (by omega) (by omega) rfl hl (by have := hok.1; omega) hok (ih _ _ (by omega) (by omega))
      · rw [if_neg hok]
        exact shape_kind h kind d _ (by omega) (by omega) rfl hl hok
end Go.Proofs.YtfknhpgelleenaaDoor.K
namespace Go.Proofs.YtfknhpgelleenaaDoor.K
open Go Go.RowKit Go.Proofs.YtfknhpgelleenaaDoorW.PrintWords Go.Proofs.YtfknhpgelleenaaDoorW.PrintLast Go.Proofs.YtfknhpgelleenaaDoorW.PrintMore
set_option linter.unusedVariables false
set_option linter.unusedSimpArgs false
open Go.Proofs.YtfknhpgelleenaaDoor.MShape (Sh)
open Go.Proofs.YtfknhpgelleenaaDoor.MRead (Rs shapeS decodeS readS)
set_option maxHeartbeats 4000000 in
set_option maxRecDepth 100000 in
theorem decode_bad (w : World) (A : Option Addr) (c : Nat) (l : List Int) (h : CB w A l) (hb : bytesOk l) (hc : l.length ≤ c) (hl : l.length < 100000000000) (hGl : Gl w) {ec : Int} (hR : shapeS 16 0 l 0 0 = .bad ec) :
    Calls Tryd.prog 43 #[.slice A l.length c] w fun ex w' => ∃ k0 B1 m1 e1 B2 m2 e2, ex = .returned (.tuple #[.agg #[.int .i64 k0, .slice B1 m1 e1, .slice B2 m2 e2], .int .i64 (0), .int .i64 (ec)]) ∧
      Hid (KW.M w' w.heap.size (fun _ => True) (zsh) [.int .i64 k0, .slice B1 m1 e1, .slice B2 m2 e2]) ∧ Hid (Bel w w') := by
  have HC := Lib.hid h
  have HBY := Lib.hid hb
  have HL := Lib.hid hl
  have HCL := Lib.hid hc
  have HGL := Lib.hid hGl
  have hA := assertBody
  have HR := Lib.hid hR
  have HSH := Lib.hid (rshape_calls 16 0 1 (by omega) (by omega))
  clear h hb hl hc hGl hR
  have Z := Blk.new w #[.int .i64 0, .slice none 0 0, .slice none 0 0] 25
  have HB0 : Hid (Bel w (w.alloc (.cells #[.int .i64 0, .slice none 0 0, .slice none 0 0] 25))) := Lib.hid ((Bel.refl w).alloc (Nat.le_refl _) _)
  go_enter Tryd.func43, Tryd.ntmps43
  go_upto_region 1 with (fail)
  obtain ⟨w1, hW⟩ : ∃ X, w.alloc (.cells #[.int .i64 0, .slice none 0 0, .slice none 0 0] 25) = X := ⟨_, rfl⟩
  rw [hW] at Z HB0 ⊢
  clear hW
  obtain ⟨gr, hgr⟩ : ∃ x, w.heap.size = x := ⟨_, rfl⟩
  have HGR := Lib.hid hgr
  rw [hgr] at Z ⊢
  clear hgr
  have HZ := Lib.hid Z
  clear Z
  go_upto_region 2 with (go_at_call 73; refine (Read_calls w1 A c l (HC.out.below HB0.out) HCL.out (by have := HL.out; omega)).mono ?_; rintro e w2 ⟨q, rfl, hq, b2, s2⟩; have HQ := Lib.hid hq; have HB2 : Hid (Bel w1 w2) := Lib.hid b2; have HS2 := Lib.hid s2; clear hq b2 s2)
  have G := Blk.new w2 #[.pointer (some ⟨q, 0, none⟩), .int .i64 0, .int .i64 0, .int .i64 0] 107
  have HB3 : Hid (Bel w2 (w2.alloc (.cells #[.pointer (some ⟨q, 0, none⟩), .int .i64 0, .int .i64 0, .int .i64 0] 107))) := Lib.hid ((Bel.refl w2).alloc (Nat.le_refl _) _)
  obtain ⟨w3, hW⟩ : ∃ X, w2.alloc (.cells #[.pointer (some ⟨q, 0, none⟩), .int .i64 0, .int .i64 0, .int .i64 0] 107) = X := ⟨_, rfl⟩
  rw [hW] at G HB3 ⊢
  clear hW
  have HW1 : Hid (gr < w1.heap.size ∧ w1.heap.size ≤ q ∧ q < w2.heap.size ∧ 2 ≤ gr) := Lib.hid ⟨HZ.out.lt, HQ.out, HS2.out.lt, by have := HGR.out; have := HGL.out.2.2; omega⟩
  obtain ⟨g, hg⟩ : ∃ x, w2.heap.size = x := ⟨_, rfl⟩
  rw [hg] at G HW1 ⊢
  clear hg
  have HBW : Hid (Bel w w3) := Lib.hid (bthen (bthen HB0.out HB2.out) HB3.out)
  have GL3 : Hid (Gl w3) := Lib.hid (HGL.out.below HBW.out HGL.out.2.2)
  have g3 : Hid (Gd w3 g q l 0 0) := Lib.hid ⟨⟨G, HS2.out.below HB3.out, by have := HW1.out; omega, HBY.out, by have := HW1.out; omega, by have := HW1.out; omega⟩, by omega, by omega, by omega, by omega, HL.out⟩
  have HZ3 := Lib.hid (Blk.bel (Blk.bel HZ.out HB2.out) HB3.out)
  have W3S : Hid (w.heap.size ≤ w3.heap.size) := Lib.hid HBW.out.size
  clear G HB2 HB3
  go_upto_region 3 with (go_at_call 74; refine (HSH.out w3 g q l 0 0 g3.out GL3.out).mono ?_; rintro e w4 ⟨k0, B1, m1, e1, B2, m2, e2, sh, rfl, hM, a4, t4⟩)
  have X := Blk.new w4 #[.int .i64 k0, .slice B1 m1 e1, .slice B2 m2 e2] 109
  have HB5 : Hid (Bel w4 (w4.alloc (.cells #[.int .i64 k0, .slice B1 m1 e1, .slice B2 m2 e2] 109))) := Lib.hid ((Bel.refl w4).alloc (Nat.le_refl _) _)
  obtain ⟨w5, hW⟩ : ∃ X, w4.alloc (.cells #[.int .i64 k0, .slice B1 m1 e1, .slice B2 m2 e2] 109) = X := ⟨_, rfl⟩
  rw [hW] at X HB5 ⊢
  clear hW
  obtain ⟨gx, hgx⟩ : ∃ x, w4.heap.size = x := ⟨_, rfl⟩
  have HGX : Hid (gr < gx ∧ w3.heap.size ≤ gx) := Lib.hid ⟨by have := t4.out.2.2.2.1; have := HZ3.out.lt; omega, by have := t4.out.2.2.2.1; omega⟩
  rw [hgx] at X ⊢
  clear hgx
  have T5 := Lib.hid (t4.out.trans (Two.of_bel g q HB5.out))
  have HZ5 := Lib.hid (HZ3.out.two T5.out (by have := HW1.out; omega) (by have := HW1.out; omega))
  have M5 := Lib.hid (Kd.M_below (d := KW) hM.out HB5.out)
  have HX5 := Lib.hid X
  clear X
  have BW : ∀ W' : World, Two w3 W' g q → Bel w W' := fun W' t => ⟨t.1.trans HBW.out.os, t.2.1.trans HBW.out.tape, t.2.2.1.trans HBW.out.output, Nat.le_trans HBW.out.size t.2.2.2.1, fun i hi => (t.2.2.2.2 i (by have := W3S.out; omega) (by have := HW1.out; have := HGR.out; omega) (by have := HW1.out; have := HGR.out; omega)).trans (HBW.out.block i hi)⟩
  have HBW2 := Lib.hid BW
  clear BW
  have b5 : Hid (Bad w5 g q ec) := Lib.hid (by
    have := a4.out
    rw [HR.out] at this
    exact Bad.bel this HB5.out)
  go_upto_region 4 with (go_at_call 75; refine (b5.out.ok).mono ?_; rintro e w6 ⟨rfl, h6, t6⟩)
  have c1 := h6.out.2
  have Z6 := HZ5.out.two t6.out (by have := HW1.out; omega) (by have := HW1.out; omega)
  obtain ⟨z0, z1, z2⟩ := Blk.cells3 Z6
  have k0' := Z6.froz 0
  have k1' := Z6.froz 1
  have k2' := Z6.froz 2
  have hgg : ¬ g = gr := by have := HW1.out; omega
  have hgg2 : ¬ gr = g := by have := HW1.out; omega
  have qg : g < w6.heap.size := h6.out.1.lt.1
  have qr : gr < w6.heap.size := Z6.lt
  have Z7 : Blk (((w6.setCell ⟨gr, 0, none⟩ (.int .i64 0)).setCell ⟨gr, 1, none⟩ (.slice none 0 0)).setCell ⟨gr, 2, none⟩ (.slice none 0 0)).drew gr #[.int .i64 0, .slice none 0 0, .slice none 0 0] 25 := Blk.drew (Blk.set3 Z6)
  have HB7 : Hid (Bel w (((w6.setCell ⟨gr, 0, none⟩ (.int .i64 0)).setCell ⟨gr, 1, none⟩ (.slice none 0 0)).setCell ⟨gr, 2, none⟩ (.slice none 0 0)).drew) := Lib.hid (bthen (below_set3 (HBW2.out _ (T5.out.trans t6.out)) (by have := HGR.out; omega) _ _ _) (Bel.drew _))
  have HZ7 := Lib.hid Z7
  clear Z6 Z7
  go_region_law (fail)
  all_goals
    clear z0 z1 z2 k0' k1' k2' c1
    obtain ⟨q0, q1, q2⟩ := Blk.cells3 HZ7.out
    go_wp2
    refine bodyPost_ret (v := .tuple #[.agg #[.int .i64 0, .slice none 0 0, .slice none 0 0], .int .i64 0, .int .i64 ec]) (by simp [results, Tryd.results43, go_sem, Act.put, q0, q1, q2]) (by simp [Act.put]) ⟨0, none, 0, 0, none, 0, 0, rfl, Lib.hid (zsh_M _ _), HB7⟩
set_option maxHeartbeats 4000000 in
set_option maxRecDepth 100000 in
theorem decode_no (w : World) (A : Option Addr) (c : Nat) (l : List Int) (h : CB w A l) (hb : bytesOk l) (hc : l.length ≤ c) (hl : l.length < 100000000000) (hGl : Gl w) {s : Sh} {l' : List Int} {p' n' ck : Int} (hR : shapeS 16 0 l 0 0 = .ok s l' p' n') (hck : MShape.check s = ck) (hz : ck ≠ 0) :
    Calls Tryd.prog 43 #[.slice A l.length c] w fun ex w' => ∃ k0 B1 m1 e1 B2 m2 e2, ex = .returned (.tuple #[.agg #[.int .i64 k0, .slice B1 m1 e1, .slice B2 m2 e2], .int .i64 (0), .int .i64 (ck)]) ∧
      Hid (KW.M w' w.heap.size (fun _ => True) (zsh) [.int .i64 k0, .slice B1 m1 e1, .slice B2 m2 e2]) ∧ Hid (Bel w w') := by
  have HC := Lib.hid h
  have HBY := Lib.hid hb
  have HL := Lib.hid hl
  have HCL := Lib.hid hc
  have HGL := Lib.hid hGl
  have hA := assertBody
  have HR := Lib.hid hR
  have HSH := Lib.hid (rshape_calls 16 0 1 (by omega) (by omega))
  have HCK0 := Lib.hid hck
  have hz2 : (ck == 0) = false := by simpa using hz
  clear hz hck
  clear h hb hl hc hGl hR
  have Z := Blk.new w #[.int .i64 0, .slice none 0 0, .slice none 0 0] 25
  have HB0 : Hid (Bel w (w.alloc (.cells #[.int .i64 0, .slice none 0 0, .slice none 0 0] 25))) := Lib.hid ((Bel.refl w).alloc (Nat.le_refl _) _)
  go_enter Tryd.func43, Tryd.ntmps43
  go_upto_region 1 with (fail)
  obtain ⟨w1, hW⟩ : ∃ X, w.alloc (.cells #[.int .i64 0, .slice none 0 0, .slice none 0 0] 25) = X := ⟨_, rfl⟩
  rw [hW] at Z HB0 ⊢
  clear hW
  obtain ⟨gr, hgr⟩ : ∃ x, w.heap.size = x := ⟨_, rfl⟩
  have HGR := Lib.hid hgr
  rw [hgr] at Z ⊢
  clear hgr
  have HZ := Lib.hid Z
  clear Z
  go_upto_region 2 with (go_at_call 73; refine (Read_calls w1 A c l (HC.out.below HB0.out) HCL.out (by have := HL.out; omega)).mono ?_; rintro e w2 ⟨q, rfl, hq, b2, s2⟩; have HQ := Lib.hid hq; have HB2 : Hid (Bel w1 w2) := Lib.hid b2; have HS2 := Lib.hid s2; clear hq b2 s2)
  have G := Blk.new w2 #[.pointer (some ⟨q, 0, none⟩), .int .i64 0, .int .i64 0, .int .i64 0] 107
  have HB3 : Hid (Bel w2 (w2.alloc (.cells #[.pointer (some ⟨q, 0, none⟩), .int .i64 0, .int .i64 0, .int .i64 0] 107))) := Lib.hid ((Bel.refl w2).alloc (Nat.le_refl _) _)
  obtain ⟨w3, hW⟩ : ∃ X, w2.alloc (.cells #[.pointer (some ⟨q, 0, none⟩), .int .i64 0, .int .i64 0, .int .i64 0] 107) = X := ⟨_, rfl⟩
  rw [hW] at G HB3 ⊢
  clear hW
  have HW1 : Hid (gr < w1.heap.size ∧ w1.heap.size ≤ q ∧ q < w2.heap.size ∧ 2 ≤ gr) := Lib.hid ⟨HZ.out.lt, HQ.out, HS2.out.lt, by have := HGR.out; have := HGL.out.2.2; omega⟩
  obtain ⟨g, hg⟩ : ∃ x, w2.heap.size = x := ⟨_, rfl⟩
  rw [hg] at G HW1 ⊢
  clear hg
  have HBW : Hid (Bel w w3) := Lib.hid (bthen (bthen HB0.out HB2.out) HB3.out)
  have GL3 : Hid (Gl w3) := Lib.hid (HGL.out.below HBW.out HGL.out.2.2)
  have g3 : Hid (Gd w3 g q l 0 0) := Lib.hid ⟨⟨G, HS2.out.below HB3.out, by have := HW1.out; omega, HBY.out, by have := HW1.out; omega, by have := HW1.out; omega⟩, by omega, by omega, by omega, by omega, HL.out⟩
  have HZ3 := Lib.hid (Blk.bel (Blk.bel HZ.out HB2.out) HB3.out)
  have W3S : Hid (w.heap.size ≤ w3.heap.size) := Lib.hid HBW.out.size
  clear G HB2 HB3
  go_upto_region 3 with (go_at_call 74; refine (HSH.out w3 g q l 0 0 g3.out GL3.out).mono ?_; rintro e w4 ⟨k0, B1, m1, e1, B2, m2, e2, sh, rfl, hM, a4, t4⟩)
  have X := Blk.new w4 #[.int .i64 k0, .slice B1 m1 e1, .slice B2 m2 e2] 109
  have HB5 : Hid (Bel w4 (w4.alloc (.cells #[.int .i64 k0, .slice B1 m1 e1, .slice B2 m2 e2] 109))) := Lib.hid ((Bel.refl w4).alloc (Nat.le_refl _) _)
  obtain ⟨w5, hW⟩ : ∃ X, w4.alloc (.cells #[.int .i64 k0, .slice B1 m1 e1, .slice B2 m2 e2] 109) = X := ⟨_, rfl⟩
  rw [hW] at X HB5 ⊢
  clear hW
  obtain ⟨gx, hgx⟩ : ∃ x, w4.heap.size = x := ⟨_, rfl⟩
  have HGX : Hid (gr < gx ∧ w3.heap.size ≤ gx) := Lib.hid ⟨by have := t4.out.2.2.2.1; have := HZ3.out.lt; omega, by have := t4.out.2.2.2.1; omega⟩
  rw [hgx] at X ⊢
  clear hgx
  have T5 := Lib.hid (t4.out.trans (Two.of_bel g q HB5.out))
  have HZ5 := Lib.hid (HZ3.out.two T5.out (by have := HW1.out; omega) (by have := HW1.out; omega))
  have M5 := Lib.hid (Kd.M_below (d := KW) hM.out HB5.out)
  have HX5 := Lib.hid X
  clear X
  have BW : ∀ W' : World, Two w3 W' g q → Bel w W' := fun W' t => ⟨t.1.trans HBW.out.os, t.2.1.trans HBW.out.tape, t.2.2.1.trans HBW.out.output, Nat.le_trans HBW.out.size t.2.2.2.1, fun i hi => (t.2.2.2.2 i (by have := W3S.out; omega) (by have := HW1.out; have := HGR.out; omega) (by have := HW1.out; have := HGR.out; omega)).trans (HBW.out.block i hi)⟩
  have HBW2 := Lib.hid BW
  clear BW
  obtain ⟨hsh, hgd⟩ : sh = s ∧ Gd w4 g q l' p' n' := by
    have := a4.out
    rw [HR.out] at this
    exact this
  subst hsh
  have g5 : Hid (Gd w5 g q l' p' n') := Lib.hid (hgd.bel HB5.out)
  clear hgd
  obtain ⟨x0, x1, x2⟩ := Blk.cells3 HX5.out
  go_upto_region 5 with (go_at_call 75; refine (g5.out.ok).mono ?_; rintro e w6 ⟨rfl, g6, t6⟩)
  have T6 := Lib.hid (T5.out.trans t6.out)
  have X6 := HX5.out.two t6.out (by have := HW1.out; have := HGX.out; have := g3.out.lt; omega) (by have := HW1.out; have := HGX.out; have := g3.out.lt; omega)
  have M6 := Lib.hid (M_two (d := KW) M5.out t6.out g3.out.lt.1 g3.out.lt.2)
  have Z6 := Lib.hid (HZ5.out.two t6.out (by have := HW1.out; omega) (by have := HW1.out; omega))
  have GL6 : Hid (Gl w6) := Lib.hid (GL3.out.two T6.out g3.out.rd.g2 g3.out.rd.q2)
  clear x0 x1 x2
  obtain ⟨x0, x1, x2⟩ := Blk.cells3 X6
  have HX6 := Lib.hid X6
  clear X6
  have HCK : Hid (Calls Tryd.prog 21 #[.agg #[.int .i64 k0, .slice B1 m1 e1, .slice B2 m2 e2]] w6 fun e w' => e = .returned (.int .i64 ck) ∧ Bel w6 w') := Lib.hid (by
    obtain ⟨dd, hm⟩ := M6.out
    rw [← HCK0.out]
    exact check_calls dd sh (.int .i64 k0, .slice B1 m1 e1, .slice B2 m2 e2) w6 w6.heap.size (Nat.le_refl _) (by have := GL6.out.2.2; omega) (MW.shB (c := (.int .i64 k0, .slice B1 m1 e1, .slice B2 m2 e2)) hm) GL6.out.1)
  go_upto_region 6 with (go_at_call 21; refine (HCK.out).mono ?_; rintro e w7 ⟨rfl, b7⟩; have HB7 := Lib.hid b7; clear b7)
  have Z7 := Z6.out.bel HB7.out
  have X7 := HX6.out.bel HB7.out
  have HBW7 := Lib.hid (bthen (HBW2.out _ T6.out) HB7.out)
  have M7 := Lib.hid (Kd.M_below (d := KW) M6.out HB7.out)
  clear x0 x1 x2
  obtain ⟨z0, z1, z2⟩ := Blk.cells3 Z7
  have k0' := Z7.froz 0
  have k1' := Z7.froz 1
  have k2' := Z7.froz 2
  have Z8 : Blk (((w7.setCell ⟨gr, 0, none⟩ (.int .i64 0)).setCell ⟨gr, 1, none⟩ (.slice none 0 0)).setCell ⟨gr, 2, none⟩ (.slice none 0 0)) gr #[.int .i64 0, .slice none 0 0, .slice none 0 0] 25 := Blk.set3 Z7
  have HB8 : Hid (Bel w (((w7.setCell ⟨gr, 0, none⟩ (.int .i64 0)).setCell ⟨gr, 1, none⟩ (.slice none 0 0)).setCell ⟨gr, 2, none⟩ (.slice none 0 0))) := Lib.hid (below_set3 HBW7.out (by have := HGR.out; omega) _ _ _)
  have HZ8 := Lib.hid Z8
  clear Z7 Z8 X7
  go_wp2
  clear z0 z1 z2 k0' k1' k2'
  obtain ⟨q0, q1, q2⟩ := Blk.cells3 HZ8.out
  refine bodyPost_ret (v := .tuple #[.agg #[.int .i64 0, .slice none 0 0, .slice none 0 0], .int .i64 0, .int .i64 ck]) (by simp [results, Tryd.results43, go_sem, Act.put, q0, q1, q2]) (by simp [Act.put]) ⟨0, none, 0, 0, none, 0, 0, rfl, Lib.hid (zsh_M _ _), HB8⟩
set_option maxHeartbeats 4000000 in
set_option maxRecDepth 100000 in
theorem decode_ok (w : World) (A : Option Addr) (c : Nat) (l : List Int) (h : CB w A l) (hb : bytesOk l) (hc : l.length ≤ c) (hl : l.length < 100000000000) (hGl : Gl w) {s : Sh} {l' : List Int} {p' n' : Int} (hR : shapeS 16 0 l 0 0 = .ok s l' p' n') (hck : MShape.check s = 0) (hle : l'.length ≤ l.length) :
    Calls Tryd.prog 43 #[.slice A l.length c] w fun ex w' => ∃ k0 B1 m1 e1 B2 m2 e2, ex = .returned (.tuple #[.agg #[.int .i64 k0, .slice B1 m1 e1, .slice B2 m2 e2], .int .i64 ((l.length : Int) - l'.length), .int .i64 (0)]) ∧
      Hid (KW.M w' w.heap.size (fun _ => True) (s) [.int .i64 k0, .slice B1 m1 e1, .slice B2 m2 e2]) ∧ Hid (Bel w w') := by
  have HC := Lib.hid h
  have HBY := Lib.hid hb
  have HL := Lib.hid hl
  have HCL := Lib.hid hc
  have HGL := Lib.hid hGl
  have hA := assertBody
  have HR := Lib.hid hR
  have HSH := Lib.hid (rshape_calls 16 0 1 (by omega) (by omega))
  have HCK0 := Lib.hid hck
  have HLE := Lib.hid hle
  clear hck hle
  clear h hb hl hc hGl hR
  have Z := Blk.new w #[.int .i64 0, .slice none 0 0, .slice none 0 0] 25
  have HB0 : Hid (Bel w (w.alloc (.cells #[.int .i64 0, .slice none 0 0, .slice none 0 0] 25))) := Lib.hid ((Bel.refl w).alloc (Nat.le_refl _) _)
  go_enter Tryd.func43, Tryd.ntmps43
  go_upto_region 1 with (fail)
  obtain ⟨w1, hW⟩ : ∃ X, w.alloc (.cells #[.int .i64 0, .slice none 0 0, .slice none 0 0] 25) = X := ⟨_, rfl⟩
  rw [hW] at Z HB0 ⊢
  clear hW
  obtain ⟨gr, hgr⟩ : ∃ x, w.heap.size = x := ⟨_, rfl⟩
  have HGR := Lib.hid hgr
  rw [hgr] at Z ⊢
  clear hgr
  have HZ := Lib.hid Z
  clear Z
  go_upto_region 2 with (go_at_call 73; refine (Read_calls w1 A c l (HC.out.below HB0.out) HCL.out (by have := HL.out; omega)).mono ?_; rintro e w2 ⟨q, rfl, hq, b2, s2⟩; have HQ := Lib.hid hq; have HB2 : Hid (Bel w1 w2) := Lib.hid b2; have HS2 := Lib.hid s2; clear hq b2 s2)
  have G := Blk.new w2 #[.pointer (some ⟨q, 0, none⟩), .int .i64 0, .int .i64 0, .int .i64 0] 107
  have HB3 : Hid (Bel w2 (w2.alloc (.cells #[.pointer (some ⟨q, 0, none⟩), .int .i64 0, .int .i64 0, .int .i64 0] 107))) := Lib.hid ((Bel.refl w2).alloc (Nat.le_refl _) _)
  obtain ⟨w3, hW⟩ : ∃ X, w2.alloc (.cells #[.pointer (some ⟨q, 0, none⟩), .int .i64 0, .int .i64 0, .int .i64 0] 107) = X := ⟨_, rfl⟩
  rw [hW] at G HB3 ⊢
  clear hW
  have HW1 : Hid (gr < w1.heap.size ∧ w1.heap.size ≤ q ∧ q < w2.heap.size ∧ 2 ≤ gr) := Lib.hid ⟨HZ.out.lt, HQ.out, HS2.out.lt, by have := HGR.out; have := HGL.out.2.2; omega⟩
  obtain ⟨g, hg⟩ : ∃ x, w2.heap.size = x := ⟨_, rfl⟩
  rw [hg] at G HW1 ⊢
  clear hg
  have HBW : Hid (Bel w w3) := Lib.hid (bthen (bthen HB0.out HB2.out) HB3.out)
  have GL3 : Hid (Gl w3) := Lib.hid (HGL.out.below HBW.out HGL.out.2.2)
  have g3 : Hid (Gd w3 g q l 0 0) := Lib.hid ⟨⟨G, HS2.out.below HB3.out, by have := HW1.out; omega, HBY.out, by have := HW1.out; omega, by have := HW1.out; omega⟩, by omega, by omega, by omega, by omega, HL.out⟩
  have HZ3 := Lib.hid (Blk.bel (Blk.bel HZ.out HB2.out) HB3.out)
  have W3S : Hid (w.heap.size ≤ w3.heap.size) := Lib.hid HBW.out.size
  clear G HB2 HB3
  go_upto_region 3 with (go_at_call 74; refine (HSH.out w3 g q l 0 0 g3.out GL3.out).mono ?_; rintro e w4 ⟨k0, B1, m1, e1, B2, m2, e2, sh, rfl, hM, a4, t4⟩)
  have X := Blk.new w4 #[.int .i64 k0, .slice B1 m1 e1, .slice B2 m2 e2] 109
  have HB5 : Hid (Bel w4 (w4.alloc (.cells #[.int .i64 k0, .slice B1 m1 e1, .slice B2 m2 e2] 109))) := Lib.hid ((Bel.refl w4).alloc (Nat.le_refl _) _)
  obtain ⟨w5, hW⟩ : ∃ X, w4.alloc (.cells #[.int .i64 k0, .slice B1 m1 e1, .slice B2 m2 e2] 109) = X := ⟨_, rfl⟩
  rw [hW] at X HB5 ⊢
  clear hW
  obtain ⟨gx, hgx⟩ : ∃ x, w4.heap.size = x := ⟨_, rfl⟩
  have HGX : Hid (gr < gx ∧ w3.heap.size ≤ gx) := Lib.hid ⟨by have := t4.out.2.2.2.1; have := HZ3.out.lt; omega, by have := t4.out.2.2.2.1; omega⟩
  rw [hgx] at X ⊢
  clear hgx
  have T5 := Lib.hid (t4.out.trans (Two.of_bel g q HB5.out))
  have HZ5 := Lib.hid (HZ3.out.two T5.out (by have := HW1.out; omega) (by have := HW1.out; omega))
  have M5 := Lib.hid (Kd.M_below (d := KW) hM.out HB5.out)
  have HX5 := Lib.hid X
  clear X
  have BW : ∀ W' : World, Two w3 W' g q → Bel w W' := fun W' t => ⟨t.1.trans HBW.out.os, t.2.1.trans HBW.out.tape, t.2.2.1.trans HBW.out.output, Nat.le_trans HBW.out.size t.2.2.2.1, fun i hi => (t.2.2.2.2 i (by have := W3S.out; omega) (by have := HW1.out; have := HGR.out; omega) (by have := HW1.out; have := HGR.out; omega)).trans (HBW.out.block i hi)⟩
  have HBW2 := Lib.hid BW
  clear BW
  obtain ⟨hsh, hgd⟩ : sh = s ∧ Gd w4 g q l' p' n' := by
    have := a4.out
    rw [HR.out] at this
    exact this
  subst hsh
  have g5 : Hid (Gd w5 g q l' p' n') := Lib.hid (hgd.bel HB5.out)
  clear hgd
  obtain ⟨x0, x1, x2⟩ := Blk.cells3 HX5.out
  go_upto_region 5 with (go_at_call 75; refine (g5.out.ok).mono ?_; rintro e w6 ⟨rfl, g6, t6⟩)
  have T6 := Lib.hid (T5.out.trans t6.out)
  have X6 := HX5.out.two t6.out (by have := HW1.out; have := HGX.out; have := g3.out.lt; omega) (by have := HW1.out; have := HGX.out; have := g3.out.lt; omega)
  have M6 := Lib.hid (M_two (d := KW) M5.out t6.out g3.out.lt.1 g3.out.lt.2)
  have Z6 := Lib.hid (HZ5.out.two t6.out (by have := HW1.out; omega) (by have := HW1.out; omega))
  have GL6 : Hid (Gl w6) := Lib.hid (GL3.out.two T6.out g3.out.rd.g2 g3.out.rd.q2)
  clear x0 x1 x2
  obtain ⟨x0, x1, x2⟩ := Blk.cells3 X6
  have HX6 := Lib.hid X6
  clear X6
  have HCK : Hid (Calls Tryd.prog 21 #[.agg #[.int .i64 k0, .slice B1 m1 e1, .slice B2 m2 e2]] w6 fun e w' => e = .returned (.int .i64 0) ∧ Bel w6 w') := Lib.hid (by
    obtain ⟨dd, hm⟩ := M6.out
    rw [← HCK0.out]
    exact check_calls dd sh (.int .i64 k0, .slice B1 m1 e1, .slice B2 m2 e2) w6 w6.heap.size (Nat.le_refl _) (by have := GL6.out.2.2; omega) (MW.shB (c := (.int .i64 k0, .slice B1 m1 e1, .slice B2 m2 e2)) hm) GL6.out.1)
  go_upto_region 6 with (go_at_call 21; refine (HCK.out).mono ?_; rintro e w7 ⟨rfl, b7⟩; have HB7 := Lib.hid b7; clear b7)
  have Z7 := Z6.out.bel HB7.out
  have X7 := HX6.out.bel HB7.out
  have HBW7 := Lib.hid (bthen (HBW2.out _ T6.out) HB7.out)
  have M7 := Lib.hid (Kd.M_below (d := KW) M6.out HB7.out)
  clear x0 x1 x2
  have g7 : Hid (Gd w7 g q l' p' n') := Lib.hid (g6.out.bel HB7.out)
  obtain ⟨z0, z1, z2⟩ := Blk.cells3 Z7
  obtain ⟨x0, x1, x2⟩ := Blk.cells3 X7
  have c0 := g7.out.c0
  have k0' := Z7.froz 0
  have k1' := Z7.froz 1
  have k2' := Z7.froz 2
  have qg : g < w7.heap.size := g7.out.lt.1
  have qr : gr < w7.heap.size := Z7.lt
  have qx : gx < w7.heap.size := X7.lt
  have hgg : ¬ g = gr := by have := HW1.out; omega
  have hgg2 : ¬ gr = g := by have := HW1.out; omega
  have hgx : ¬ gx = gr := by have := HGX.out; omega
  have hgx2 : ¬ gr = gx := by have := HGX.out; omega
  have HZ7 := Lib.hid Z7
  have hw : IntKind.i64.wrap ((l.length : Int) - l'.length) = (l.length : Int) - l'.length := IntWalk.i64_in _ (by have := HL.out; have := HLE.out; omega)
  clear Z7 X7
  go_upto_region 8 with (fail)
  go_region_law (first
    | (go_simp; go_at_call 76; refine ((g7.out.bel (Bel.drew _)).left).mono ?_; rintro e w9 ⟨rfl, rfl⟩))
  all_goals
    clear z0 z1 z2 k0' k1' k2' c0 x0 x1 x2
    have Z8 : Blk (((w7.setCell ⟨gr, 0, none⟩ (.int .i64 k0)).setCell ⟨gr, 1, none⟩ (.slice B1 m1 e1)).setCell ⟨gr, 2, none⟩ (.slice B2 m2 e2)).drew gr #[.int .i64 k0, .slice B1 m1 e1, .slice B2 m2 e2] 25 := Blk.drew (Blk.set3 HZ7.out)
    have HB8 : Hid (Bel w (((w7.setCell ⟨gr, 0, none⟩ (.int .i64 k0)).setCell ⟨gr, 1, none⟩ (.slice B1 m1 e1)).setCell ⟨gr, 2, none⟩ (.slice B2 m2 e2)).drew) := Lib.hid (bthen (below_set3 HBW7.out (by have := HGR.out; omega) _ _ _) (Bel.drew _))
    have M8 : Hid (KW.M (((w7.setCell ⟨gr, 0, none⟩ (.int .i64 k0)).setCell ⟨gr, 1, none⟩ (.slice B1 m1 e1)).setCell ⟨gr, 2, none⟩ (.slice B2 m2 e2)).drew w.heap.size (fun _ => True) sh [.int .i64 k0, .slice B1 m1 e1, .slice B2 m2 e2]) := Lib.hid (by
      obtain ⟨dd, hm⟩ := M7.out
      have hm2 : KW.M w7 w3.heap.size (fun k => w3.heap.size ≤ k) sh [.int .i64 k0, .slice B1 m1 e1, .slice B2 m2 e2] := ⟨dd, hm.bound.mono (fun k hk => hk.2.1)⟩
      have hne : ∀ k, w3.heap.size ≤ k → k ≠ gr := fun k hk => by have := HZ3.out.lt; omega
      have hm3 := Kd.M_far (d := KW) (p := ⟨gr, 2, none⟩) (Kd.M_far (d := KW) (p := ⟨gr, 1, none⟩) (Kd.M_far (d := KW) (p := ⟨gr, 0, none⟩) hm2 hne (.int .i64 k0)) hne (.slice B1 m1 e1)) hne (.slice B2 m2 e2)
      obtain ⟨d9, h9⟩ := Kd.M_below (d := KW) hm3 (Bel.drew _)
      exact ⟨d9, (h9.mono (fun _ _ => trivial)).lower W3S.out⟩)
    obtain ⟨q0, q1, q2⟩ := Blk.cells3 Z8
    go_wp2
    refine bodyPost_ret (v := .tuple #[.agg #[.int .i64 k0, .slice B1 m1 e1, .slice B2 m2 e2], .int .i64 ((l.length : Int) - l'.length), .int .i64 0]) (by simp [results, Tryd.results43, go_sem, Act.put, q0, q1, q2]) (by simp [Act.put]) ⟨k0, B1, m1, e1, B2, m2, e2, rfl, M8, HB8⟩
/-- wkb.Decode -/
theorem decode_calls (w : World) (A : Option Addr) (c : Nat) (l : List Int) (h : CB w A l) (hb : bytesOk l) (hc : l.length ≤ c) (hl : l.length < 100000000000) (hGl : Gl w) :
    Calls Tryd.prog 43 #[.slice A l.length c] w fun ex w' => ∃ k0 B1 m1 e1 B2 m2 e2, ex = .returned (.tuple #[.agg #[.int .i64 k0, .slice B1 m1 e1, .slice B2 m2 e2], .int .i64 (decodeS l).2.1, .int .i64 (decodeS l).2.2]) ∧
      Hid (KW.M w' w.heap.size (fun _ => True) (decodeS l).1 [.int .i64 k0, .slice B1 m1 e1, .slice B2 m2 e2]) ∧ Hid (Bel w w') := by
  unfold decodeS
  cases hr : shapeS 16 0 l 0 0 with
  | bad ec => exact decode_bad w A c l h hb hc hl hGl hr
  | ok s l' p n =>
    have hle := MRead.read_len true hr
    simp only
    by_cases hck : MShape.check s = 0
    · rw [if_pos hck]
      exact decode_ok w A c l h hb hc hl hGl hr hck (by omega)
    · rw [if_neg hck]
      exact decode_no w A c l h hb hc hl hGl hr rfl hck
set_option maxHeartbeats 4000000 in
set_option maxRecDepth 100000 in
theorem read_more (w : World) (A : Option Addr) (c : Nat) (l : List Int) (h : CB w A l) (hb : bytesOk l) (hc : l.length ≤ c) (hl : l.length < 100000000000) (hGl : Gl w) {sh : Sh} {n : Int} (hdec : decodeS l = (sh, n, 0)) (hn : n < (l.length : Int)) :
    Calls Tryd.prog 44 #[.slice A l.length c] w fun ex w' => ∃ k0 B1 m1 e1 B2 m2 e2, ex = .returned (.tuple #[.agg #[.int .i64 k0, .slice B1 m1 e1, .slice B2 m2 e2], .int .i64 (9)]) ∧
      Hid (KW.M w' w.heap.size (fun _ => True) (zsh) [.int .i64 k0, .slice B1 m1 e1, .slice B2 m2 e2]) ∧ Hid (Bel w w') := by
  have Z := Blk.new w #[.int .i64 0, .slice none 0 0, .slice none 0 0] 25
  have HB0 : Hid (Bel w (w.alloc (.cells #[.int .i64 0, .slice none 0 0, .slice none 0 0] 25))) := Lib.hid ((Bel.refl w).alloc (Nat.le_refl _) _)
  have HDEC := Lib.hid (fun W h1 h2 => decode_calls W A c l h1 hb hc hl h2)
  have HC := Lib.hid h
  have HGL := Lib.hid hGl
  rw [hdec] at HDEC
  clear h hb hc hl hGl hdec
  dsimp only at HDEC
  go_enter Tryd.func44, Tryd.ntmps44
  go_upto_region 1 with (fail)
  obtain ⟨w1, hW⟩ : ∃ X, w.alloc (.cells #[.int .i64 0, .slice none 0 0, .slice none 0 0] 25) = X := ⟨_, rfl⟩
  rw [hW] at Z HB0 ⊢
  clear hW
  obtain ⟨gr, hgr⟩ : ∃ x, w.heap.size = x := ⟨_, rfl⟩
  have HGR := Lib.hid hgr
  rw [hgr] at Z ⊢
  clear hgr
  have HZ := Lib.hid Z
  clear Z
  go_upto_region 2 with (go_at_call 43; refine (HDEC.out w1 (HC.out.below HB0.out) (HGL.out.below HB0.out HGL.out.2.2)).mono ?_; rintro e w2 ⟨k0, B1, m1, e1, B2, m2, e2, rfl, hM, b2⟩)
  have X := Blk.new w2 #[.int .i64 k0, .slice B1 m1 e1, .slice B2 m2 e2] 25
  have HB3 : Hid (Bel w2 (w2.alloc (.cells #[.int .i64 k0, .slice B1 m1 e1, .slice B2 m2 e2] 25))) := Lib.hid ((Bel.refl w2).alloc (Nat.le_refl _) _)
  obtain ⟨w3, hW⟩ : ∃ X, w2.alloc (.cells #[.int .i64 k0, .slice B1 m1 e1, .slice B2 m2 e2] 25) = X := ⟨_, rfl⟩
  rw [hW] at X HB3 ⊢
  clear hW
  obtain ⟨gx, hgx⟩ : ∃ x, w2.heap.size = x := ⟨_, rfl⟩
  rw [hgx] at X ⊢
  clear hgx
  have Z3 := Blk.bel (Blk.bel HZ.out b2.out) HB3.out
  have HBW := Lib.hid (bthen (bthen HB0.out b2.out) HB3.out)
  have M3 := Lib.hid (Kd.M_below (d := KW) hM.out HB3.out)
  have HG1 : Hid (gr < w1.heap.size) := Lib.hid HZ.out.lt
  obtain ⟨z0, z1, z2⟩ := Blk.cells3 Z3
  obtain ⟨x0, x1, x2⟩ := Blk.cells3 X
  have k0' := Z3.froz 0
  have k1' := Z3.froz 1
  have k2' := Z3.froz 2
  have HZ3 := Lib.hid Z3
  clear Z3 X
  have Z8 : Blk (((w3.setCell ⟨gr, 0, none⟩ (.int .i64 0)).setCell ⟨gr, 1, none⟩ (.slice none 0 0)).setCell ⟨gr, 2, none⟩ (.slice none 0 0)) gr #[.int .i64 0, .slice none 0 0, .slice none 0 0] 25 := Blk.set3 HZ3.out
  have HB8 : Hid (Bel w (((w3.setCell ⟨gr, 0, none⟩ (.int .i64 0)).setCell ⟨gr, 1, none⟩ (.slice none 0 0)).setCell ⟨gr, 2, none⟩ (.slice none 0 0))) := Lib.hid (below_set3 HBW.out (by have := HGR.out; omega) _ _ _)
  have HZ8 := Lib.hid Z8
  clear Z8
  go_wp2
  clear z0 z1 z2 k0' k1' k2' x0 x1 x2
  obtain ⟨q0, q1, q2⟩ := Blk.cells3 HZ8.out
  refine bodyPost_ret (v := .tuple #[.agg #[.int .i64 0, .slice none 0 0, .slice none 0 0], .int .i64 9]) (by simp [results, Tryd.results44, go_sem, Act.put, q0, q1, q2]) (by simp [Act.put]) ⟨0, none, 0, 0, none, 0, 0, rfl, Lib.hid (zsh_M _ _), HB8⟩
set_option maxHeartbeats 4000000 in
set_option maxRecDepth 100000 in
theorem read_fine (w : World) (A : Option Addr) (c : Nat) (l : List Int) (h : CB w A l) (hb : bytesOk l) (hc : l.length ≤ c) (hl : l.length < 100000000000) (hGl : Gl w) {sh : Sh} {n : Int} (hdec : decodeS l = (sh, n, 0)) (hn : ¬ n < (l.length : Int)) :
    Calls Tryd.prog 44 #[.slice A l.length c] w fun ex w' => ∃ k0 B1 m1 e1 B2 m2 e2, ex = .returned (.tuple #[.agg #[.int .i64 k0, .slice B1 m1 e1, .slice B2 m2 e2], .int .i64 (0)]) ∧
      Hid (KW.M w' w.heap.size (fun _ => True) (sh) [.int .i64 k0, .slice B1 m1 e1, .slice B2 m2 e2]) ∧ Hid (Bel w w') := by
  have Z := Blk.new w #[.int .i64 0, .slice none 0 0, .slice none 0 0] 25
  have HB0 : Hid (Bel w (w.alloc (.cells #[.int .i64 0, .slice none 0 0, .slice none 0 0] 25))) := Lib.hid ((Bel.refl w).alloc (Nat.le_refl _) _)
  have HDEC := Lib.hid (fun W h1 h2 => decode_calls W A c l h1 hb hc hl h2)
  have HC := Lib.hid h
  have HGL := Lib.hid hGl
  rw [hdec] at HDEC
  clear h hb hc hl hGl hdec
  dsimp only at HDEC
  go_enter Tryd.func44, Tryd.ntmps44
  go_upto_region 1 with (fail)
  obtain ⟨w1, hW⟩ : ∃ X, w.alloc (.cells #[.int .i64 0, .slice none 0 0, .slice none 0 0] 25) = X := ⟨_, rfl⟩
  rw [hW] at Z HB0 ⊢
  clear hW
  obtain ⟨gr, hgr⟩ : ∃ x, w.heap.size = x := ⟨_, rfl⟩
  have HGR := Lib.hid hgr
  rw [hgr] at Z ⊢
  clear hgr
  have HZ := Lib.hid Z
  clear Z
  go_upto_region 2 with (go_at_call 43; refine (HDEC.out w1 (HC.out.below HB0.out) (HGL.out.below HB0.out HGL.out.2.2)).mono ?_; rintro e w2 ⟨k0, B1, m1, e1, B2, m2, e2, rfl, hM, b2⟩)
  have X := Blk.new w2 #[.int .i64 k0, .slice B1 m1 e1, .slice B2 m2 e2] 25
  have HB3 : Hid (Bel w2 (w2.alloc (.cells #[.int .i64 k0, .slice B1 m1 e1, .slice B2 m2 e2] 25))) := Lib.hid ((Bel.refl w2).alloc (Nat.le_refl _) _)
  obtain ⟨w3, hW⟩ : ∃ X, w2.alloc (.cells #[.int .i64 k0, .slice B1 m1 e1, .slice B2 m2 e2] 25) = X := ⟨_, rfl⟩
  rw [hW] at X HB3 ⊢
  clear hW
  obtain ⟨gx, hgx⟩ : ∃ x, w2.heap.size = x := ⟨_, rfl⟩
  rw [hgx] at X ⊢
  clear hgx
  have Z3 := Blk.bel (Blk.bel HZ.out b2.out) HB3.out
  have HBW := Lib.hid (bthen (bthen HB0.out b2.out) HB3.out)
  have M3 := Lib.hid (Kd.M_below (d := KW) hM.out HB3.out)
  have HG1 : Hid (gr < w1.heap.size) := Lib.hid HZ.out.lt
  obtain ⟨z0, z1, z2⟩ := Blk.cells3 Z3
  obtain ⟨x0, x1, x2⟩ := Blk.cells3 X
  have k0' := Z3.froz 0
  have k1' := Z3.froz 1
  have k2' := Z3.froz 2
  have HZ3 := Lib.hid Z3
  clear Z3 X
  have Z8 : Blk (((w3.setCell ⟨gr, 0, none⟩ (.int .i64 k0)).setCell ⟨gr, 1, none⟩ (.slice B1 m1 e1)).setCell ⟨gr, 2, none⟩ (.slice B2 m2 e2)) gr #[.int .i64 k0, .slice B1 m1 e1, .slice B2 m2 e2] 25 := Blk.set3 HZ3.out
  have HB8 : Hid (Bel w (((w3.setCell ⟨gr, 0, none⟩ (.int .i64 k0)).setCell ⟨gr, 1, none⟩ (.slice B1 m1 e1)).setCell ⟨gr, 2, none⟩ (.slice B2 m2 e2))) := Lib.hid (below_set3 HBW.out (by have := HGR.out; omega) _ _ _)
  have M8 : Hid (KW.M (((w3.setCell ⟨gr, 0, none⟩ (.int .i64 k0)).setCell ⟨gr, 1, none⟩ (.slice B1 m1 e1)).setCell ⟨gr, 2, none⟩ (.slice B2 m2 e2)) w.heap.size (fun _ => True) sh [.int .i64 k0, .slice B1 m1 e1, .slice B2 m2 e2]) := Lib.hid (by
    obtain ⟨dd, hm⟩ := M3.out
    have hm2 : KW.M w3 w1.heap.size (fun k => w1.heap.size ≤ k) sh [.int .i64 k0, .slice B1 m1 e1, .slice B2 m2 e2] := ⟨dd, hm.bound.mono (fun k hk => hk.2.1)⟩
    have hne : ∀ k, w1.heap.size ≤ k → k ≠ gr := fun k hk => by have := HG1.out; omega
    obtain ⟨d9, h9⟩ := Kd.M_far (d := KW) (p := ⟨gr, 2, none⟩) (Kd.M_far (d := KW) (p := ⟨gr, 1, none⟩) (Kd.M_far (d := KW) (p := ⟨gr, 0, none⟩) hm2 hne (.int .i64 k0)) hne (.slice B1 m1 e1)) hne (.slice B2 m2 e2)
    exact ⟨d9, (h9.mono (fun _ _ => trivial)).lower HB0.out.size⟩)
  have HZ8 := Lib.hid Z8
  clear Z8
  go_wp2
  clear z0 z1 z2 k0' k1' k2' x0 x1 x2
  obtain ⟨q0, q1, q2⟩ := Blk.cells3 HZ8.out
  refine bodyPost_ret (v := .tuple #[.agg #[.int .i64 k0, .slice B1 m1 e1, .slice B2 m2 e2], .int .i64 0]) (by simp [results, Tryd.results44, go_sem, Act.put, q0, q1, q2]) (by simp [Act.put]) ⟨k0, B1, m1, e1, B2, m2, e2, rfl, M8, HB8⟩
set_option maxHeartbeats 4000000 in
set_option maxRecDepth 100000 in
theorem read_bad (w : World) (A : Option Addr) (c : Nat) (l : List Int) (h : CB w A l) (hb : bytesOk l) (hc : l.length ≤ c) (hl : l.length < 100000000000) (hGl : Gl w) {sh : Sh} {n ec : Int} (hdec : decodeS l = (sh, n, ec)) (hec : ec ≠ 0) :
    Calls Tryd.prog 44 #[.slice A l.length c] w fun ex w' => ∃ k0 B1 m1 e1 B2 m2 e2, ex = .returned (.tuple #[.agg #[.int .i64 k0, .slice B1 m1 e1, .slice B2 m2 e2], .int .i64 (ec)]) ∧
      Hid (KW.M w' w.heap.size (fun _ => True) (sh) [.int .i64 k0, .slice B1 m1 e1, .slice B2 m2 e2]) ∧ Hid (Bel w w') := by
  have he2 : (ec == 0) = false := by simpa using hec
  clear hec
  have Z := Blk.new w #[.int .i64 0, .slice none 0 0, .slice none 0 0] 25
  have HB0 : Hid (Bel w (w.alloc (.cells #[.int .i64 0, .slice none 0 0, .slice none 0 0] 25))) := Lib.hid ((Bel.refl w).alloc (Nat.le_refl _) _)
  have HDEC := Lib.hid (fun W h1 h2 => decode_calls W A c l h1 hb hc hl h2)
  have HC := Lib.hid h
  have HGL := Lib.hid hGl
  rw [hdec] at HDEC
  clear h hb hc hl hGl hdec
  dsimp only at HDEC
  go_enter Tryd.func44, Tryd.ntmps44
  go_upto_region 1 with (fail)
  obtain ⟨w1, hW⟩ : ∃ X, w.alloc (.cells #[.int .i64 0, .slice none 0 0, .slice none 0 0] 25) = X := ⟨_, rfl⟩
  rw [hW] at Z HB0 ⊢
  clear hW
  obtain ⟨gr, hgr⟩ : ∃ x, w.heap.size = x := ⟨_, rfl⟩
  have HGR := Lib.hid hgr
  rw [hgr] at Z ⊢
  clear hgr
  have HZ := Lib.hid Z
  clear Z
  go_upto_region 2 with (go_at_call 43; refine (HDEC.out w1 (HC.out.below HB0.out) (HGL.out.below HB0.out HGL.out.2.2)).mono ?_; rintro e w2 ⟨k0, B1, m1, e1, B2, m2, e2, rfl, hM, b2⟩)
  have X := Blk.new w2 #[.int .i64 k0, .slice B1 m1 e1, .slice B2 m2 e2] 25
  have HB3 : Hid (Bel w2 (w2.alloc (.cells #[.int .i64 k0, .slice B1 m1 e1, .slice B2 m2 e2] 25))) := Lib.hid ((Bel.refl w2).alloc (Nat.le_refl _) _)
  obtain ⟨w3, hW⟩ : ∃ X, w2.alloc (.cells #[.int .i64 k0, .slice B1 m1 e1, .slice B2 m2 e2] 25) = X := ⟨_, rfl⟩
  rw [hW] at X HB3 ⊢
  clear hW
  obtain ⟨gx, hgx⟩ : ∃ x, w2.heap.size = x := ⟨_, rfl⟩
  rw [hgx] at X ⊢
  clear hgx
  have Z3 := Blk.bel (Blk.bel HZ.out b2.out) HB3.out
  have HBW := Lib.hid (bthen (bthen HB0.out b2.out) HB3.out)
  have M3 := Lib.hid (Kd.M_below (d := KW) hM.out HB3.out)
  have HG1 : Hid (gr < w1.heap.size) := Lib.hid HZ.out.lt
  obtain ⟨z0, z1, z2⟩ := Blk.cells3 Z3
  obtain ⟨x0, x1, x2⟩ := Blk.cells3 X
  have k0' := Z3.froz 0
  have k1' := Z3.froz 1
  have k2' := Z3.froz 2
  have HZ3 := Lib.hid Z3
  clear Z3 X
  have Z8 : Blk (((w3.setCell ⟨gr, 0, none⟩ (.int .i64 k0)).setCell ⟨gr, 1, none⟩ (.slice B1 m1 e1)).setCell ⟨gr, 2, none⟩ (.slice B2 m2 e2)) gr #[.int .i64 k0, .slice B1 m1 e1, .slice B2 m2 e2] 25 := Blk.set3 HZ3.out
  have HB8 : Hid (Bel w (((w3.setCell ⟨gr, 0, none⟩ (.int .i64 k0)).setCell ⟨gr, 1, none⟩ (.slice B1 m1 e1)).setCell ⟨gr, 2, none⟩ (.slice B2 m2 e2))) := Lib.hid (below_set3 HBW.out (by have := HGR.out; omega) _ _ _)
  have M8 : Hid (KW.M (((w3.setCell ⟨gr, 0, none⟩ (.int .i64 k0)).setCell ⟨gr, 1, none⟩ (.slice B1 m1 e1)).setCell ⟨gr, 2, none⟩ (.slice B2 m2 e2)) w.heap.size (fun _ => True) sh [.int .i64 k0, .slice B1 m1 e1, .slice B2 m2 e2]) := Lib.hid (by
    obtain ⟨dd, hm⟩ := M3.out
    have hm2 : KW.M w3 w1.heap.size (fun k => w1.heap.size ≤ k) sh [.int .i64 k0, .slice B1 m1 e1, .slice B2 m2 e2] := ⟨dd, hm.bound.mono (fun k hk => hk.2.1)⟩
    have hne : ∀ k, w1.heap.size ≤ k → k ≠ gr := fun k hk => by have := HG1.out; omega
    obtain ⟨d9, h9⟩ := Kd.M_far (d := KW) (p := ⟨gr, 2, none⟩) (Kd.M_far (d := KW) (p := ⟨gr, 1, none⟩) (Kd.M_far (d := KW) (p := ⟨gr, 0, none⟩) hm2 hne (.int .i64 k0)) hne (.slice B1 m1 e1)) hne (.slice B2 m2 e2)
    exact ⟨d9, (h9.mono (fun _ _ => trivial)).lower HB0.out.size⟩)
  have HZ8 := Lib.hid Z8
  clear Z8
  go_wp2
  clear z0 z1 z2 k0' k1' k2' x0 x1 x2
  obtain ⟨q0, q1, q2⟩ := Blk.cells3 HZ8.out
  refine bodyPost_ret (v := .tuple #[.agg #[.int .i64 k0, .slice B1 m1 e1, .slice B2 m2 e2], .int .i64 ec]) (by simp [results, Tryd.results44, go_sem, Act.put, q0, q1, q2]) (by simp [Act.put]) ⟨k0, B1, m1, e1, B2, m2, e2, rfl, M8, HB8⟩
/-- wkb.Read -/
theorem read_calls (w : World) (A : Option Addr) (c : Nat) (l : List Int) (h : CB w A l) (hb : bytesOk l) (hc : l.length ≤ c) (hl : l.length < 100000000000) (hGl : Gl w) :
    Calls Tryd.prog 44 #[.slice A l.length c] w fun ex w' => ∃ k0 B1 m1 e1 B2 m2 e2, ex = .returned (.tuple #[.agg #[.int .i64 k0, .slice B1 m1 e1, .slice B2 m2 e2], .int .i64 (readS l).2]) ∧
      Hid (KW.M w' w.heap.size (fun _ => True) (readS l).1 [.int .i64 k0, .slice B1 m1 e1, .slice B2 m2 e2]) ∧ Hid (Bel w w') := by
  unfold readS
  obtain ⟨⟨sh, n, ec⟩, hdec⟩ : ∃ x, decodeS l = x := ⟨_, rfl⟩
  rw [hdec]
  dsimp only
  by_cases hec : ec = 0
  · subst hec
    by_cases hn : n < (l.length : Int)
    · rw [if_pos ⟨rfl, hn⟩]
      exact read_more w A c l h hb hc hl hGl hdec hn
    · rw [if_neg (fun hh => hn hh.2)]
      exact read_fine w A c l h hb hc hl hGl hdec hn
  · rw [if_neg (fun hh => hec hh.1)]
    exact read_bad w A c l h hb hc hl hGl hdec hec
end Go.Proofs.YtfknhpgelleenaaDoor.K
end
