/- Boxes: what they hold, and what is alike. -/
import Derived.Test.YtljcingmjemohaaKB
import Derived.Handy
import Derived.Test.YtljcingmjemohaaKX1
namespace Go.Proofs.Ytljcingmjemohaa.K
open Go Go.RowKit Go.Proofs.YtljcingmjemohaaW.PrintWords Go.Proofs.YtljcingmjemohaaW.PrintLast Go.Proofs.YtljcingmjemohaaW.PrintMore
set_option linter.unusedVariables false
set_option linter.unusedSimpArgs false
open Go.Proofs.Ytljcingmjemohaa.MWide (W64 U192 addV subV addOk subOk cmpV)
open Go.Proofs.Ytljcingmjemohaa.MBox (Bx)
theorem has_is (b : Bx) (r : Bool) (w : World) (h : MBox.has b = r) : Calls Try.prog 91 #[.agg #[.bool b.no, .int .i64 b.lx, .int .i64 b.ly, .int .i64 b.hx, .int .i64 b.hy]] w fun e w' => e = .returned (.bool r) ∧ Bel w w' := h ▸ has_calls b w
theorem refHas_is (b : Bx) (r : Bool) (w : World) (h : MBox.has b = r) : Calls Try.prog 26 #[.agg #[.bool b.no, .int .i64 b.lx, .int .i64 b.ly, .int .i64 b.hx, .int .i64 b.hy]] w fun e w' => e = .returned (.bool r) ∧ Bel w w' := h ▸ refHas_calls b w
attribute [local go_sem] undef
theorem Blk.cells4 {W : World} {g t : Nat} {x y z p : Value} (h : Blk W g #[x, y, z, p] t) : W.cell? ⟨g, 0, none⟩ = some x ∧ W.cell? ⟨g, 1, none⟩ = some y ∧ W.cell? ⟨g, 2, none⟩ = some z ∧ W.cell? ⟨g, 3, none⟩ = some p :=
  ⟨h.cell 0 rfl, h.cell 1 rfl, h.cell 2 rfl, h.cell 3 rfl⟩
theorem Blk.set4 {W : World} {g t : Nat} {x y z p x' y' z' p' : Value} (h : Blk W g #[x, y, z, p] t) : Blk ((((W.setCell ⟨g, 0, none⟩ x').setCell ⟨g, 1, none⟩ y').setCell ⟨g, 2, none⟩ z').setCell ⟨g, 3, none⟩ p') g #[x', y', z', p'] t := by
  have := (((h.set 0 x').set 1 y').set 2 z').set 3 p'
  exact this
theorem below_set4 {B : Nat} {a w : World} (h : Below B a w) {g : Nat} (hg : B ≤ g) (x y z p : Value) : Below B a ((((w.setCell ⟨g, 0, none⟩ x).setCell ⟨g, 1, none⟩ y).setCell ⟨g, 2, none⟩ z).setCell ⟨g, 3, none⟩ p) :=
  below_set (below_set (below_set (below_set h hg x) hg y) hg z) hg p
set_option maxHeartbeats 2000000 in
set_option maxRecDepth 100000 in
theorem sides_calls (b : Bx) (w : World) : Calls Try.prog 92 #[.agg #[.bool b.no, .int .i64 b.lx, .int .i64 b.ly, .int .i64 b.hx, .int .i64 b.hy]] w fun e w' => e = .returned (.agg #[.int .i64 b.lx, .int .i64 b.hx, .int .i64 b.ly, .int .i64 b.hy]) ∧ Bel w w' := by
  have A := (Blk.new w #[.bool b.no, .int .i64 b.lx, .int .i64 b.ly, .int .i64 b.hx, .int .i64 b.hy] 38).alloc (.cells #[.int .i64 0, .int .i64 0, .int .i64 0, .int .i64 0] 135)
  have R := Blk.new_at (W := (w.alloc (.cells #[.bool b.no, .int .i64 b.lx, .int .i64 b.ly, .int .i64 b.hx, .int .i64 b.hy] 38))) (g := w.heap.size + 1) (by simp) #[.int .i64 0, .int .i64 0, .int .i64 0, .int .i64 0] 135
  have HB : Hid (Below w.heap.size w ((w.alloc (.cells #[.bool b.no, .int .i64 b.lx, .int .i64 b.ly, .int .i64 b.hx, .int .i64 b.hy] 38)).alloc (.cells #[.int .i64 0, .int .i64 0, .int .i64 0, .int .i64 0] 135))) := Lib.hid (by repeat (first | exact Below.refl _ _ | refine Below.drew ?_ | refine Below.alloc ?_ (by simp <;> omega) _))
  go_enter Try.func92, Try.ntmps92
  go_upto_region 1 with (fail)
  obtain ⟨W, hW⟩ : ∃ W, ((w.alloc (.cells #[.bool b.no, .int .i64 b.lx, .int .i64 b.ly, .int .i64 b.hx, .int .i64 b.hy] 38)).alloc (.cells #[.int .i64 0, .int .i64 0, .int .i64 0, .int .i64 0] 135)) = W := ⟨_, rfl⟩
  rw [hW] at A R HB ⊢
  clear hW
  obtain ⟨a0, a1, a2, a3, a4⟩ := Blk.cells5 A
  obtain ⟨r0, r1, r2, r3⟩ := Blk.cells4 R
  have rf0 := R.froz 0; have rf1 := R.froz 1; have rf2 := R.froz 2; have rf3 := R.froz 3
  go_wp2
  refine bodyPost_ret (v := .agg #[.int .i64 b.lx, .int .i64 b.hx, .int .i64 b.ly, .int .i64 b.hy]) ?_ rfl ⟨rfl, below_set4 HB.out (by omega) _ _ _ _⟩
  obtain ⟨q0, q1, q2, q3⟩ := Blk.cells4 (Blk.set4 R (x' := .int .i64 b.lx) (y' := .int .i64 b.hx) (z' := .int .i64 b.ly) (p' := .int .i64 b.hy))
  simp [results, Try.results92, go_sem, q0, q1, q2, q3]
set_option maxHeartbeats 2000000 in
set_option maxRecDepth 100000 in
theorem refHolds_calls (a b : Bx) (w : World) : Calls Try.prog 34 #[.agg #[.bool a.no, .int .i64 a.lx, .int .i64 a.ly, .int .i64 a.hx, .int .i64 a.hy], .agg #[.bool b.no, .int .i64 b.lx, .int .i64 b.ly, .int .i64 b.hx, .int .i64 b.hy]] w fun e w' => e = .returned (.bool (MBox.holds a b)) ∧ Bel w w' := by
  have HH := Lib.hid refHas_is
  unfold MBox.holds
  cases hB : MBox.has b with
  | false =>
    have A := (Blk.new w #[.bool a.no, .int .i64 a.lx, .int .i64 a.ly, .int .i64 a.hx, .int .i64 a.hy] 38).alloc (.cells #[.bool b.no, .int .i64 b.lx, .int .i64 b.ly, .int .i64 b.hx, .int .i64 b.hy] 38)
    have B := Blk.new_at (W := (w.alloc (.cells #[.bool a.no, .int .i64 a.lx, .int .i64 a.ly, .int .i64 a.hx, .int .i64 a.hy] 38))) (g := w.heap.size + 1) (by simp) #[.bool b.no, .int .i64 b.lx, .int .i64 b.ly, .int .i64 b.hx, .int .i64 b.hy] 38
    have HB : Hid (Below w.heap.size w ((w.alloc (.cells #[.bool a.no, .int .i64 a.lx, .int .i64 a.ly, .int .i64 a.hx, .int .i64 a.hy] 38)).alloc (.cells #[.bool b.no, .int .i64 b.lx, .int .i64 b.ly, .int .i64 b.hx, .int .i64 b.hy] 38))) := Lib.hid (by repeat (first | exact Below.refl _ _ | refine Below.drew ?_ | refine Below.alloc ?_ (by simp <;> omega) _))
    go_enter Try.func34, Try.ntmps34
    go_upto_region 1 with (fail)
    obtain ⟨W, hW⟩ : ∃ W, ((w.alloc (.cells #[.bool a.no, .int .i64 a.lx, .int .i64 a.ly, .int .i64 a.hx, .int .i64 a.hy] 38)).alloc (.cells #[.bool b.no, .int .i64 b.lx, .int .i64 b.ly, .int .i64 b.hx, .int .i64 b.hy] 38)) = W := ⟨_, rfl⟩
    rw [hW] at A B HB ⊢
    clear hW
    obtain ⟨a0, a1, a2, a3, a4⟩ := Blk.cells5 A
    obtain ⟨b0, b1, b2, b3, b4⟩ := Blk.cells5 B
    go_wp2_with (go_at_call 26; refine (HH.out _ _ _ (by assumption)).mono ?_; rintro e w' ⟨rfl, hb⟩; clear a0 a1 a2 a3 a4 b0 b1 b2 b3 b4; have A := Blk.bel A hb; have B := Blk.bel B hb; have HB := Lib.hid (bthen HB.out hb); clear hb; obtain ⟨a0, a1, a2, a3, a4⟩ := Blk.cells5 A; obtain ⟨b0, b1, b2, b3, b4⟩ := Blk.cells5 B)
    go_ret
    exact ⟨by simp, HB.out⟩
  | true =>
    cases hA : MBox.has a with
    | false =>
      have A := (Blk.new w #[.bool a.no, .int .i64 a.lx, .int .i64 a.ly, .int .i64 a.hx, .int .i64 a.hy] 38).alloc (.cells #[.bool b.no, .int .i64 b.lx, .int .i64 b.ly, .int .i64 b.hx, .int .i64 b.hy] 38)
      have B := Blk.new_at (W := (w.alloc (.cells #[.bool a.no, .int .i64 a.lx, .int .i64 a.ly, .int .i64 a.hx, .int .i64 a.hy] 38))) (g := w.heap.size + 1) (by simp) #[.bool b.no, .int .i64 b.lx, .int .i64 b.ly, .int .i64 b.hx, .int .i64 b.hy] 38
      have HB : Hid (Below w.heap.size w ((w.alloc (.cells #[.bool a.no, .int .i64 a.lx, .int .i64 a.ly, .int .i64 a.hx, .int .i64 a.hy] 38)).alloc (.cells #[.bool b.no, .int .i64 b.lx, .int .i64 b.ly, .int .i64 b.hx, .int .i64 b.hy] 38))) := Lib.hid (by repeat (first | exact Below.refl _ _ | refine Below.drew ?_ | refine Below.alloc ?_ (by simp <;> omega) _))
      go_enter Try.func34, Try.ntmps34
      go_upto_region 1 with (fail)
      obtain ⟨W, hW⟩ : ∃ W, ((w.alloc (.cells #[.bool a.no, .int .i64 a.lx, .int .i64 a.ly, .int .i64 a.hx, .int .i64 a.hy] 38)).alloc (.cells #[.bool b.no, .int .i64 b.lx, .int .i64 b.ly, .int .i64 b.hx, .int .i64 b.hy] 38)) = W := ⟨_, rfl⟩
      rw [hW] at A B HB ⊢
      clear hW
      obtain ⟨a0, a1, a2, a3, a4⟩ := Blk.cells5 A
      obtain ⟨b0, b1, b2, b3, b4⟩ := Blk.cells5 B
      go_wp2_with (go_at_call 26; refine (HH.out _ _ _ (by assumption)).mono ?_; rintro e w' ⟨rfl, hb⟩; clear a0 a1 a2 a3 a4 b0 b1 b2 b3 b4; have A := Blk.bel A hb; have B := Blk.bel B hb; have HB := Lib.hid (bthen HB.out hb); clear hb; obtain ⟨a0, a1, a2, a3, a4⟩ := Blk.cells5 A; obtain ⟨b0, b1, b2, b3, b4⟩ := Blk.cells5 B)
      go_ret
      exact ⟨by simp, HB.out⟩
    | true =>
      cases c1 : decide (a.lx ≤ b.lx) with
      | false =>
        have A := (Blk.new w #[.bool a.no, .int .i64 a.lx, .int .i64 a.ly, .int .i64 a.hx, .int .i64 a.hy] 38).alloc (.cells #[.bool b.no, .int .i64 b.lx, .int .i64 b.ly, .int .i64 b.hx, .int .i64 b.hy] 38)
        have B := Blk.new_at (W := (w.alloc (.cells #[.bool a.no, .int .i64 a.lx, .int .i64 a.ly, .int .i64 a.hx, .int .i64 a.hy] 38))) (g := w.heap.size + 1) (by simp) #[.bool b.no, .int .i64 b.lx, .int .i64 b.ly, .int .i64 b.hx, .int .i64 b.hy] 38
        have HB : Hid (Below w.heap.size w ((w.alloc (.cells #[.bool a.no, .int .i64 a.lx, .int .i64 a.ly, .int .i64 a.hx, .int .i64 a.hy] 38)).alloc (.cells #[.bool b.no, .int .i64 b.lx, .int .i64 b.ly, .int .i64 b.hx, .int .i64 b.hy] 38))) := Lib.hid (by repeat (first | exact Below.refl _ _ | refine Below.drew ?_ | refine Below.alloc ?_ (by simp <;> omega) _))
        go_enter Try.func34, Try.ntmps34
        go_upto_region 1 with (fail)
        obtain ⟨W, hW⟩ : ∃ W, ((w.alloc (.cells #[.bool a.no, .int .i64 a.lx, .int .i64 a.ly, .int .i64 a.hx, .int .i64 a.hy] 38)).alloc (.cells #[.bool b.no, .int .i64 b.lx, .int .i64 b.ly, .int .i64 b.hx, .int .i64 b.hy] 38)) = W := ⟨_, rfl⟩
        rw [hW] at A B HB ⊢
        clear hW
        obtain ⟨a0, a1, a2, a3, a4⟩ := Blk.cells5 A
        obtain ⟨b0, b1, b2, b3, b4⟩ := Blk.cells5 B
        go_wp2_with (go_at_call 26; refine (HH.out _ _ _ (by assumption)).mono ?_; rintro e w' ⟨rfl, hb⟩; clear a0 a1 a2 a3 a4 b0 b1 b2 b3 b4; have A := Blk.bel A hb; have B := Blk.bel B hb; have HB := Lib.hid (bthen HB.out hb); clear hb; obtain ⟨a0, a1, a2, a3, a4⟩ := Blk.cells5 A; obtain ⟨b0, b1, b2, b3, b4⟩ := Blk.cells5 B)
        go_ret
        exact ⟨by simp, HB.out⟩
      | true =>
        cases c2 : decide (b.hx ≤ a.hx) with
        | false =>
          have A := (Blk.new w #[.bool a.no, .int .i64 a.lx, .int .i64 a.ly, .int .i64 a.hx, .int .i64 a.hy] 38).alloc (.cells #[.bool b.no, .int .i64 b.lx, .int .i64 b.ly, .int .i64 b.hx, .int .i64 b.hy] 38)
          have B := Blk.new_at (W := (w.alloc (.cells #[.bool a.no, .int .i64 a.lx, .int .i64 a.ly, .int .i64 a.hx, .int .i64 a.hy] 38))) (g := w.heap.size + 1) (by simp) #[.bool b.no, .int .i64 b.lx, .int .i64 b.ly, .int .i64 b.hx, .int .i64 b.hy] 38
          have HB : Hid (Below w.heap.size w ((w.alloc (.cells #[.bool a.no, .int .i64 a.lx, .int .i64 a.ly, .int .i64 a.hx, .int .i64 a.hy] 38)).alloc (.cells #[.bool b.no, .int .i64 b.lx, .int .i64 b.ly, .int .i64 b.hx, .int .i64 b.hy] 38))) := Lib.hid (by repeat (first | exact Below.refl _ _ | refine Below.drew ?_ | refine Below.alloc ?_ (by simp <;> omega) _))
          go_enter Try.func34, Try.ntmps34
          go_upto_region 1 with (fail)
          obtain ⟨W, hW⟩ : ∃ W, ((w.alloc (.cells #[.bool a.no, .int .i64 a.lx, .int .i64 a.ly, .int .i64 a.hx, .int .i64 a.hy] 38)).alloc (.cells #[.bool b.no, .int .i64 b.lx, .int .i64 b.ly, .int .i64 b.hx, .int .i64 b.hy] 38)) = W := ⟨_, rfl⟩
          rw [hW] at A B HB ⊢
          clear hW
          obtain ⟨a0, a1, a2, a3, a4⟩ := Blk.cells5 A
          obtain ⟨b0, b1, b2, b3, b4⟩ := Blk.cells5 B
          go_wp2_with (go_at_call 26; refine (HH.out _ _ _ (by assumption)).mono ?_; rintro e w' ⟨rfl, hb⟩; clear a0 a1 a2 a3 a4 b0 b1 b2 b3 b4; have A := Blk.bel A hb; have B := Blk.bel B hb; have HB := Lib.hid (bthen HB.out hb); clear hb; obtain ⟨a0, a1, a2, a3, a4⟩ := Blk.cells5 A; obtain ⟨b0, b1, b2, b3, b4⟩ := Blk.cells5 B)
          go_ret
          exact ⟨by simp, HB.out⟩
        | true =>
          cases c3 : decide (a.ly ≤ b.ly) with
          | false =>
            have A := (Blk.new w #[.bool a.no, .int .i64 a.lx, .int .i64 a.ly, .int .i64 a.hx, .int .i64 a.hy] 38).alloc (.cells #[.bool b.no, .int .i64 b.lx, .int .i64 b.ly, .int .i64 b.hx, .int .i64 b.hy] 38)
            have B := Blk.new_at (W := (w.alloc (.cells #[.bool a.no, .int .i64 a.lx, .int .i64 a.ly, .int .i64 a.hx, .int .i64 a.hy] 38))) (g := w.heap.size + 1) (by simp) #[.bool b.no, .int .i64 b.lx, .int .i64 b.ly, .int .i64 b.hx, .int .i64 b.hy] 38
            have HB : Hid (Below w.heap.size w ((w.alloc (.cells #[.bool a.no, .int .i64 a.lx, .int .i64 a.ly, .int .i64 a.hx, .int .i64 a.hy] 38)).alloc (.cells #[.bool b.no, .int .i64 b.lx, .int .i64 b.ly, .int .i64 b.hx, .int .i64 b.hy] 38))) := Lib.hid (by repeat (first | exact Below.refl _ _ | refine Below.drew ?_ | refine Below.alloc ?_ (by simp <;> omega) _))
            go_enter Try.func34, Try.ntmps34
            go_upto_region 1 with (fail)
            obtain ⟨W, hW⟩ : ∃ W, ((w.alloc (.cells #[.bool a.no, .int .i64 a.lx, .int .i64 a.ly, .int .i64 a.hx, .int .i64 a.hy] 38)).alloc (.cells #[.bool b.no, .int .i64 b.lx, .int .i64 b.ly, .int .i64 b.hx, .int .i64 b.hy] 38)) = W := ⟨_, rfl⟩
            rw [hW] at A B HB ⊢
            clear hW
            obtain ⟨a0, a1, a2, a3, a4⟩ := Blk.cells5 A
            obtain ⟨b0, b1, b2, b3, b4⟩ := Blk.cells5 B
            go_wp2_with (go_at_call 26; refine (HH.out _ _ _ (by assumption)).mono ?_; rintro e w' ⟨rfl, hb⟩; clear a0 a1 a2 a3 a4 b0 b1 b2 b3 b4; have A := Blk.bel A hb; have B := Blk.bel B hb; have HB := Lib.hid (bthen HB.out hb); clear hb; obtain ⟨a0, a1, a2, a3, a4⟩ := Blk.cells5 A; obtain ⟨b0, b1, b2, b3, b4⟩ := Blk.cells5 B)
            go_ret
            exact ⟨by simp, HB.out⟩
          | true =>
            have A := (Blk.new w #[.bool a.no, .int .i64 a.lx, .int .i64 a.ly, .int .i64 a.hx, .int .i64 a.hy] 38).alloc (.cells #[.bool b.no, .int .i64 b.lx, .int .i64 b.ly, .int .i64 b.hx, .int .i64 b.hy] 38)
            have B := Blk.new_at (W := (w.alloc (.cells #[.bool a.no, .int .i64 a.lx, .int .i64 a.ly, .int .i64 a.hx, .int .i64 a.hy] 38))) (g := w.heap.size + 1) (by simp) #[.bool b.no, .int .i64 b.lx, .int .i64 b.ly, .int .i64 b.hx, .int .i64 b.hy] 38
            have HB : Hid (Below w.heap.size w ((w.alloc (.cells #[.bool a.no, .int .i64 a.lx, .int .i64 a.ly, .int .i64 a.hx, .int .i64 a.hy] 38)).alloc (.cells #[.bool b.no, .int .i64 b.lx, .int .i64 b.ly, .int .i64 b.hx, .int .i64 b.hy] 38))) := Lib.hid (by repeat (first | exact Below.refl _ _ | refine Below.drew ?_ | refine Below.alloc ?_ (by simp <;> omega) _))
            go_enter Try.func34, Try.ntmps34
            go_upto_region 1 with (fail)
            obtain ⟨W, hW⟩ : ∃ W, ((w.alloc (.cells #[.bool a.no, .int .i64 a.lx, .int .i64 a.ly, .int .i64 a.hx, .int .i64 a.hy] 38)).alloc (.cells #[.bool b.no, .int .i64 b.lx, .int .i64 b.ly, .int .i64 b.hx, .int .i64 b.hy] 38)) = W := ⟨_, rfl⟩
            rw [hW] at A B HB ⊢
            clear hW
            obtain ⟨a0, a1, a2, a3, a4⟩ := Blk.cells5 A
            obtain ⟨b0, b1, b2, b3, b4⟩ := Blk.cells5 B
            go_wp2_with (go_at_call 26; refine (HH.out _ _ _ (by assumption)).mono ?_; rintro e w' ⟨rfl, hb⟩; clear a0 a1 a2 a3 a4 b0 b1 b2 b3 b4; have A := Blk.bel A hb; have B := Blk.bel B hb; have HB := Lib.hid (bthen HB.out hb); clear hb; obtain ⟨a0, a1, a2, a3, a4⟩ := Blk.cells5 A; obtain ⟨b0, b1, b2, b3, b4⟩ := Blk.cells5 B)
            go_ret
            exact ⟨by simp, HB.out⟩
end Go.Proofs.Ytljcingmjemohaa.K
