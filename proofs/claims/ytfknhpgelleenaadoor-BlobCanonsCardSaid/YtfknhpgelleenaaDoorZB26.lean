/- What a claim leans on, part 26, cut by a program out of the texts WBox10. -/
import Derived.Handy
import Derived.Test.YtfknhpgelleenaaDoorZB4
import Derived.Test.YtfknhpgelleenaaDoorZB10
import Derived.Test.YtfknhpgelleenaaDoorZB11
import Derived.Test.YtfknhpgelleenaaDoorZB14
import Derived.Test.YtfknhpgelleenaaDoorZB16
section
namespace Go.Proofs.YtfknhpgelleenaaDoor.K
open Go Go.RowKit Go.Proofs.YtfknhpgelleenaaDoorW.PrintWords Go.Proofs.YtfknhpgelleenaaDoorW.PrintLast Go.Proofs.YtfknhpgelleenaaDoorW.PrintMore
set_option linter.unusedVariables false
set_option linter.unusedSimpArgs false
open Go.Proofs.YtfknhpgelleenaaDoor.MShape (Sh flats)
theorem RPt.grown {w0 w w1 : World} {v : Value} {l : List (Int × Int)} {q : Nat} (h : RPt w0 w v l) (hg : w.grownBy w1 (some q)) (hq : q < w0.heap.size) : RPt w0 w1 v l :=
  Kd.R_mono (Kd.R_grown (Kd.R_bound h) hg (fun k hk e => by have := Option.some.inj e; have := hk.2.1; omega)) (fun _ _ => trivial)
theorem set5_grown (W : World) (g : Nat) (a b c d e : Value) : W.grownBy (((((W.setCell ⟨g, 0, none⟩ a).setCell ⟨g, 1, none⟩ b).setCell ⟨g, 2, none⟩ c).setCell ⟨g, 3, none⟩ d).setCell ⟨g, 4, none⟩ e) (some g) :=
  only_setCell (p := ⟨g, 4, none⟩) (only_setCell (p := ⟨g, 3, none⟩) (only_setCell (p := ⟨g, 2, none⟩) (only_setCell (p := ⟨g, 1, none⟩) (only_setCell (p := ⟨g, 0, none⟩) (World.grownBy.refl W (some g)) (.inl rfl) a) (.inl rfl) b) (.inl rfl) c) (.inl rfl) d) (.inl rfl) e
theorem Blk.set5_ne {W : World} {g j t : Nat} {cs : Array Value} {a b c d e : Value} (h : Blk W g cs t) (hj : g ≠ j) : Blk (((((W.setCell ⟨j, 0, none⟩ a).setCell ⟨j, 1, none⟩ b).setCell ⟨j, 2, none⟩ c).setCell ⟨j, 3, none⟩ d).setCell ⟨j, 4, none⟩ e) g cs t :=
  ((((h.set_ne hj _).set_ne hj _).set_ne hj _).set_ne hj _).set_ne hj _
theorem take_one {α : Type} {l : List α} {k : Nat} (h : k < l.length) : l.take (k + 1) = l.take k ++ [l[k]] := List.take_succ_eq_append_getElem h
set_option maxHeartbeats 4000000 in
set_option maxRecDepth 100000 in
theorem refOf_calls (D : Nat) (s : Sh) (c : Value × Value × Value) (w : World) (B : Nat) (hB : B ≤ w.heap.size) (hs : ShB B w D c s) (hlen : s.flat.length < 1000000) :
    Calls Tryd.prog 47 #[.agg #[c.1, c.2.1, c.2.2]] w fun e w' => e = .returned (.agg #[.bool (boxOf s.flat).no, .int .i64 (boxOf s.flat).lx, .int .i64 (boxOf s.flat).ly, .int .i64 (boxOf s.flat).hx, .int .i64 (boxOf s.flat).hy]) ∧ Bel w w' := by
  have HC := Lib.hid (fun w h1 h2 => rAll_calls D s c w B h1 h2 hlen)
  have HS := Lib.hid hs
  obtain ⟨kd, a, n, m, a', n', m', rfl⟩ := hs.forms
  dsimp only
  clear hs
  obtain ⟨l, hl⟩ : ∃ l, s.flat = l := ⟨_, rfl⟩
  rw [hl] at HC ⊢
  clear hl hlen
  have S := ((Blk.new w #[.int .i64 kd, .slice a n m, .slice a' n' m'] 25).alloc (.cells #[.bool false, .int .i64 0, .int .i64 0, .int .i64 0, .int .i64 0] 67)).alloc (.cells #[.bool MBox.noneB.no, .int .i64 MBox.noneB.lx, .int .i64 MBox.noneB.ly, .int .i64 MBox.noneB.hx, .int .i64 MBox.noneB.hy] 67)
  have R := (Blk.new_at (W := w.alloc (.cells #[.int .i64 kd, .slice a n m, .slice a' n' m'] 25)) (g := w.heap.size + 1) (by simp) #[.bool false, .int .i64 0, .int .i64 0, .int .i64 0, .int .i64 0] 67).alloc (.cells #[.bool MBox.noneB.no, .int .i64 MBox.noneB.lx, .int .i64 MBox.noneB.ly, .int .i64 MBox.noneB.hx, .int .i64 MBox.noneB.hy] 67)
  have O := Blk.new_at (W := (w.alloc (.cells #[.int .i64 kd, .slice a n m, .slice a' n' m'] 25)).alloc (.cells #[.bool false, .int .i64 0, .int .i64 0, .int .i64 0, .int .i64 0] 67)) (g := w.heap.size + 1 + 1) (by simp) #[.bool MBox.noneB.no, .int .i64 MBox.noneB.lx, .int .i64 MBox.noneB.ly, .int .i64 MBox.noneB.hx, .int .i64 MBox.noneB.hy] 67
  have HB : Hid (Below w.heap.size w (((w.alloc (.cells #[.int .i64 kd, .slice a n m, .slice a' n' m'] 25)).alloc (.cells #[.bool false, .int .i64 0, .int .i64 0, .int .i64 0, .int .i64 0] 67)).alloc (.cells #[.bool MBox.noneB.no, .int .i64 MBox.noneB.lx, .int .i64 MBox.noneB.ly, .int .i64 MBox.noneB.hx, .int .i64 MBox.noneB.hy] 67))) := Lib.hid (by repeat (first | exact Below.refl _ _ | refine Below.alloc ?_ (by simp <;> omega) _))
  have hW0 : (((w.alloc (.cells #[.int .i64 kd, .slice a n m, .slice a' n' m'] 25)).alloc (.cells #[.bool false, .int .i64 0, .int .i64 0, .int .i64 0, .int .i64 0] 67)).alloc (.cells #[.bool MBox.noneB.no, .int .i64 MBox.noneB.lx, .int .i64 MBox.noneB.ly, .int .i64 MBox.noneB.hx, .int .i64 MBox.noneB.hy] 67)).heap.size = w.heap.size + 1 + 1 + 1 := by simp
  have HU := Lib.hid refUnion_calls
  go_enter Tryd.func47, Tryd.ntmps47
  go_upto_region 2 with (fail)
  obtain ⟨W, hW⟩ : ∃ W, ((w.alloc (.cells #[.int .i64 kd, .slice a n m, .slice a' n' m'] 25)).alloc (.cells #[.bool false, .int .i64 0, .int .i64 0, .int .i64 0, .int .i64 0] 67)).alloc (.cells #[.bool MBox.noneB.no, .int .i64 MBox.noneB.lx, .int .i64 MBox.noneB.ly, .int .i64 MBox.noneB.hx, .int .i64 MBox.noneB.hy] 67) = W := ⟨_, rfl⟩
  rw [hW] at S R O HB hW0
  rw [show ((w.alloc (.cells #[.int .i64 kd, .slice a n m, .slice a' n' m'] 25)).alloc (.cells #[.bool false, .int .i64 0, .int .i64 0, .int .i64 0, .int .i64 0] 67)).alloc (.cells #[.bool true, .int .i64 0, .int .i64 0, .int .i64 0, .int .i64 0] 67) = W from hW]
  clear hW
  obtain ⟨s0, s1, s2⟩ := Blk.cells3 S
  have HCALL := Lib.hid (HC.out W (by omega) (HS.out.keep (KeepB.bel HB.out)))
  go_wp2_with (go_at_call 29; refine (HCALL.out).mono ?_; rintro e w7 ⟨v7, rfl, hr7, hb7⟩; have HR7 := Lib.hid hr7; obtain ⟨A7, c7, rfl, hc7, hC7⟩ := hr7.reads; have HL7 := Lib.hid hC7.2.1; have O7 := Lib.hid (Blk.bel O hb7); have R7 := Lib.hid (Blk.bel R hb7); have HB7 := Lib.hid (bthen HB.out hb7); clear hr7 hC7 hb7)
  have hl63 : l.length ≤ 9223372036854775807 := HL7.out
  clear s0 s1 s2 S O R
  go_loopw [10] (fun i wr => ∃ (k : Nat), i = .int .i64 k ∧ k ≤ l.length ∧ Hid (Below w.heap.size w wr) ∧ Hid (RPt W wr (.slice A7 l.length c7) l) ∧ Hid (Blk wr (w.heap.size + 1 + 1) #[.bool (boxOf (l.take k)).no, .int .i64 (boxOf (l.take k)).lx, .int .i64 (boxOf (l.take k)).ly, .int .i64 (boxOf (l.take k)).hx, .int .i64 (boxOf (l.take k)).hy] 67) ∧ Hid (Blk wr (w.heap.size + 1) #[.bool false, .int .i64 0, .int .i64 0, .int .i64 0, .int .i64 0] 67)) (fun i _ => l.length - (intOf i).toNat)
  case atStart => exact ⟨0, rfl, by omega, HB7, HR7, Lib.hid (by rw [List.take_zero]; exact O7.out), R7⟩
  case round =>
      obtain ⟨k, rfl, hk, HBk, HRk, HO, HR⟩ := hrel
      by_cases hlt : k < l.length
      · obtain ⟨A', c', e', hcc, hCk⟩ := HRk.out.reads
        obtain ⟨a9, c9, e9, _, _, hx9⟩ := hCk.pts (Nat.le_refl _)
        obtain ⟨b, off, e8, hbB, x0, x1⟩ := hx9 k hlt
        injection e' with e5 e6 e7
        injection e9 with e3 e4 e2
        subst e5
        subst e3
        subst e8
        have hsn := boxOf_snoc (l.take k) l[k]
        rw [← take_one hlt] at hsn
        obtain ⟨x, hx⟩ : ∃ x, l[k] = x := ⟨_, rfl⟩
        rw [hx] at x0 x1 hsn
        obtain ⟨b0, hb0⟩ : ∃ b, boxOf (l.take k) = b := ⟨_, rfl⟩
        obtain ⟨b9, hb9⟩ : ∃ b, boxOf (l.take (k + 1)) = b := ⟨_, rfl⟩
        rw [hb0] at HO hsn
        rw [hb9] at hsn
        have HUU : Hid (∀ w, Calls Tryd.prog 79 #[.agg #[.bool b0.no, .int .i64 b0.lx, .int .i64 b0.ly, .int .i64 b0.hx, .int .i64 b0.hy], .agg #[.bool false, .int .i64 x.1, .int .i64 x.2, .int .i64 x.1, .int .i64 x.2]] w fun e w' => e = .returned (.agg #[.bool b9.no, .int .i64 b9.lx, .int .i64 b9.ly, .int .i64 b9.hx, .int .i64 b9.hy]) ∧ Bel w w') := Lib.hid (fun w => by have := HU.out b0 ⟨false, x.1, x.2, x.1, x.2⟩ w; rw [← hsn] at this; exact this)
        have HB9 := Lib.hid hb9
        have hgO := HO.out.lt
        clear hx hx9 hCk hcc e6 e7 e4 e2 hsn hb0 hb9
        have P := Blk.new wr #[.int .i64 x.1, .int .i64 x.2] 41
        have HOp := Lib.hid (HO.out.alloc (.cells #[.int .i64 x.1, .int .i64 x.2] 41))
        have HRp := Lib.hid (HR.out.alloc (.cells #[.int .i64 x.1, .int .i64 x.2] 41))
        have HBp := Lib.hid (HBk.out.alloc HBk.out.size (.cells #[.int .i64 x.1, .int .i64 x.2] 41))
        have HRkp := Lib.hid (HRk.out.below ((Bel.refl wr).alloc (Nat.le_refl _) (.cells #[.int .i64 x.1, .int .i64 x.2] 41)))
        clear HO HR HBk HRk
        go_upto_region 5 with (fail)
        obtain ⟨w5, hW⟩ : ∃ X, wr.alloc (.cells #[.int .i64 x.1, .int .i64 x.2] 41) = X := ⟨_, rfl⟩
        rw [hW] at P HOp HRp HBp HRkp ⊢
        obtain ⟨gp, hg⟩ : ∃ g, wr.heap.size = g := ⟨_, rfl⟩
        rw [hg] at P hgO hbB ⊢
        clear hW hg x0 x1
        have p0 : w5.cell? ⟨gp, 0, none⟩ = some (.int .i64 x.1) := Blk.cell P 0 rfl
        have p1 : w5.cell? ⟨gp, 1, none⟩ = some (.int .i64 x.2) := Blk.cell P 1 rfl
        obtain ⟨o0, o1, o2, o3, o4⟩ := Blk.cells5 HOp.out
        go_wp2_with (go_at_call 79; refine (HUU.out _).mono ?_; rintro e w8 ⟨rfl, hb8⟩; have O8 := Lib.hid (Blk.bel HOp.out hb8); have R8 := Lib.hid (Blk.bel HRp.out hb8); have HB8 := Lib.hid (bthen HBp.out hb8); have HRk8 := Lib.hid (HRkp.out.below hb8); clear hb8 o0 o1 o2 o3 o4; obtain ⟨o0, o1, o2, o3, o4⟩ := Blk.cells5 O8.out; have f0 := O8.out.froz 0; have f1 := O8.out.froz 1; have f2 := O8.out.froz 2; have f3 := O8.out.froz 3; have f4 := O8.out.froz 4)
        go_roundw
        case rel => exact ⟨k + 1, by go_num, by omega, Lib.hid (below_set5 HB8.out (by omega) _ _ _ _ _), Lib.hid (HRk8.out.grown (set5_grown _ _ _ _ _ _ _) (by omega)), Lib.hid (by rw [HB9.out]; exact Blk.set5 O8.out), Lib.hid (Blk.set5_ne R8.out (by omega))⟩
        case measure => (simp [intOf] <;> omega)
      · have : k = l.length := by omega
        subst this
        have HF6 : Hid (boxOf (l.take l.length) = boxOf l) := Lib.hid (by rw [List.take_length])
        obtain ⟨b0, hb0⟩ : ∃ b, boxOf (l.take l.length) = b := ⟨_, rfl⟩
        have HF : Hid (boxOf l = b0) := Lib.hid (by rw [← HF6.out, hb0])
        rw [hb0] at HO
        clear hlt hk hb0 HF6
        obtain ⟨o0, o1, o2, o3, o4⟩ := Blk.cells5 HO.out
        obtain ⟨r0, r1, r2, r3, r4⟩ := Blk.cells5 HR.out
        have f0 := HR.out.froz 0; have f1 := HR.out.froz 1; have f2 := HR.out.froz 2; have f3 := HR.out.froz 3; have f4 := HR.out.froz 4
        have R9 := Blk.set5 HR.out (x' := .bool b0.no) (y' := .int .i64 b0.lx) (z' := .int .i64 b0.ly) (p' := .int .i64 b0.hx) (q' := .int .i64 b0.hy)
        go_wp2
        refine bodyPost_ret (v := .agg #[.bool b0.no, .int .i64 b0.lx, .int .i64 b0.ly, .int .i64 b0.hx, .int .i64 b0.hy]) ?_ rfl ⟨by rw [HF.out], below_set5 HBk.out (by omega) _ _ _ _ _⟩
        obtain ⟨q0, q1, q2, q3, q4⟩ := Blk.cells5 R9
        simp [results, Tryd.results47, go_sem, q0, q1, q2, q3, q4]
end Go.Proofs.YtfknhpgelleenaaDoor.K
end
