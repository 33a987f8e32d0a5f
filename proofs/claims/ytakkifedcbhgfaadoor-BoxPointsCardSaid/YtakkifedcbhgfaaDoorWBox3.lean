/- Boxes: what they hold, and what is alike. -/
import Derived.Test.YtakkifedcbhgfaaDoorKB
import Derived.Handy
import Derived.Test.YtakkifedcbhgfaaDoorKX1
namespace Go.Proofs.YtakkifedcbhgfaaDoor.K
open Go Go.RowKit Go.Proofs.YtakkifedcbhgfaaDoorW.PrintWords Go.Proofs.YtakkifedcbhgfaaDoorW.PrintLast Go.Proofs.YtakkifedcbhgfaaDoorW.PrintMore
set_option linter.unusedVariables false
set_option linter.unusedSimpArgs false
open Go.Proofs.YtakkifedcbhgfaaDoor.MWide (W64 U192 addV subV addOk subOk cmpV)
open Go.Proofs.YtakkifedcbhgfaaDoor.MBox (Bx)
theorem has_is (b : Bx) (r : Bool) (w : World) (h : MBox.has b = r) : Calls Tryd.prog 74 #[.agg #[.bool b.no, .int .i64 b.lx, .int .i64 b.ly, .int .i64 b.hx, .int .i64 b.hy]] w fun e w' => e = .returned (.bool r) ∧ Bel w w' := h ▸ has_calls b w
theorem refHas_is (b : Bx) (r : Bool) (w : World) (h : MBox.has b = r) : Calls Tryd.prog 80 #[.agg #[.bool b.no, .int .i64 b.lx, .int .i64 b.ly, .int .i64 b.hx, .int .i64 b.hy]] w fun e w' => e = .returned (.bool r) ∧ Bel w w' := h ▸ refHas_calls b w
attribute [local go_sem] undef
set_option maxHeartbeats 2000000 in
set_option maxRecDepth 100000 in
theorem holds_calls (a b : Bx) (w : World) : Calls Tryd.prog 42 #[.agg #[.bool a.no, .int .i64 a.lx, .int .i64 a.ly, .int .i64 a.hx, .int .i64 a.hy], .agg #[.bool b.no, .int .i64 b.lx, .int .i64 b.ly, .int .i64 b.hx, .int .i64 b.hy]] w fun e w' => e = .returned (.bool (MBox.holds a b)) ∧ Bel w w' := by
  have HH := Lib.hid has_is
  have HU := Lib.hid (fun w => union_calls a b w)
  have q1 := eqB (MBox.union a b) a
  rw [MBox.holds_union]
  obtain ⟨un, hun⟩ : ∃ u, MBox.union a b = u := ⟨_, rfl⟩
  obtain ⟨sm, hsm⟩ : ∃ u, MBox.same (MBox.union a b) a = u := ⟨_, rfl⟩
  rw [hsm] at q1 ⊢
  rw [hun] at HU q1
  clear hun hsm
  cases hB : MBox.has b with
  | false =>
    have A := (Blk.new w #[.bool a.no, .int .i64 a.lx, .int .i64 a.ly, .int .i64 a.hx, .int .i64 a.hy] 52).alloc (.cells #[.bool b.no, .int .i64 b.lx, .int .i64 b.ly, .int .i64 b.hx, .int .i64 b.hy] 52)
    have B := Blk.new_at (W := (w.alloc (.cells #[.bool a.no, .int .i64 a.lx, .int .i64 a.ly, .int .i64 a.hx, .int .i64 a.hy] 52))) (g := w.heap.size + 1) (by simp) #[.bool b.no, .int .i64 b.lx, .int .i64 b.ly, .int .i64 b.hx, .int .i64 b.hy] 52
    have HB : Hid (Below w.heap.size w ((w.alloc (.cells #[.bool a.no, .int .i64 a.lx, .int .i64 a.ly, .int .i64 a.hx, .int .i64 a.hy] 52)).alloc (.cells #[.bool b.no, .int .i64 b.lx, .int .i64 b.ly, .int .i64 b.hx, .int .i64 b.hy] 52))) := Lib.hid (by repeat (first | exact Below.refl _ _ | refine Below.drew ?_ | refine Below.alloc ?_ (by simp <;> omega) _))
    go_enter Tryd.func42, Tryd.ntmps42
    go_upto_region 1 with (fail)
    obtain ⟨W, hW⟩ : ∃ W, ((w.alloc (.cells #[.bool a.no, .int .i64 a.lx, .int .i64 a.ly, .int .i64 a.hx, .int .i64 a.hy] 52)).alloc (.cells #[.bool b.no, .int .i64 b.lx, .int .i64 b.ly, .int .i64 b.hx, .int .i64 b.hy] 52)) = W := ⟨_, rfl⟩
    rw [hW] at A B HB ⊢
    clear hW
    obtain ⟨a0, a1, a2, a3, a4⟩ := Blk.cells5 A
    obtain ⟨b0, b1, b2, b3, b4⟩ := Blk.cells5 B
    go_wp2_with fail
    have A := Blk.drew A
    have HB := Lib.hid (Below.drew HB.out)
    first | go_region_with (go_at_call 74; refine (HH.out _ _ _ (by assumption)).mono ?_; rintro e w' ⟨rfl, hb⟩; have A := Blk.bel A hb; have HB := Lib.hid (bthen HB.out hb); clear hb; obtain ⟨a0, a1, a2, a3, a4⟩ := Blk.cells5 A) | fail
    all_goals
      go_wp2
      go_ret
      exact ⟨by simp [Act.put], HB.out⟩
  | true =>
    cases hA : MBox.has a with
    | false =>
      have A := (Blk.new w #[.bool a.no, .int .i64 a.lx, .int .i64 a.ly, .int .i64 a.hx, .int .i64 a.hy] 52).alloc (.cells #[.bool b.no, .int .i64 b.lx, .int .i64 b.ly, .int .i64 b.hx, .int .i64 b.hy] 52)
      have B := Blk.new_at (W := (w.alloc (.cells #[.bool a.no, .int .i64 a.lx, .int .i64 a.ly, .int .i64 a.hx, .int .i64 a.hy] 52))) (g := w.heap.size + 1) (by simp) #[.bool b.no, .int .i64 b.lx, .int .i64 b.ly, .int .i64 b.hx, .int .i64 b.hy] 52
      have HB : Hid (Below w.heap.size w ((w.alloc (.cells #[.bool a.no, .int .i64 a.lx, .int .i64 a.ly, .int .i64 a.hx, .int .i64 a.hy] 52)).alloc (.cells #[.bool b.no, .int .i64 b.lx, .int .i64 b.ly, .int .i64 b.hx, .int .i64 b.hy] 52))) := Lib.hid (by repeat (first | exact Below.refl _ _ | refine Below.drew ?_ | refine Below.alloc ?_ (by simp <;> omega) _))
      go_enter Tryd.func42, Tryd.ntmps42
      go_upto_region 1 with (fail)
      obtain ⟨W, hW⟩ : ∃ W, ((w.alloc (.cells #[.bool a.no, .int .i64 a.lx, .int .i64 a.ly, .int .i64 a.hx, .int .i64 a.hy] 52)).alloc (.cells #[.bool b.no, .int .i64 b.lx, .int .i64 b.ly, .int .i64 b.hx, .int .i64 b.hy] 52)) = W := ⟨_, rfl⟩
      rw [hW] at A B HB ⊢
      clear hW
      obtain ⟨a0, a1, a2, a3, a4⟩ := Blk.cells5 A
      obtain ⟨b0, b1, b2, b3, b4⟩ := Blk.cells5 B
      go_wp2_with fail
      have A := Blk.drew A
      have HB := Lib.hid (Below.drew HB.out)
      first | go_region_with (go_at_call 74; refine (HH.out _ _ _ (by assumption)).mono ?_; rintro e w' ⟨rfl, hb⟩; have A := Blk.bel A hb; have HB := Lib.hid (bthen HB.out hb); clear hb; obtain ⟨a0, a1, a2, a3, a4⟩ := Blk.cells5 A) | fail
      all_goals
        go_wp2
        go_ret
        exact ⟨by simp [Act.put], HB.out⟩
    | true =>
      have A := (Blk.new w #[.bool a.no, .int .i64 a.lx, .int .i64 a.ly, .int .i64 a.hx, .int .i64 a.hy] 52).alloc (.cells #[.bool b.no, .int .i64 b.lx, .int .i64 b.ly, .int .i64 b.hx, .int .i64 b.hy] 52)
      have B := Blk.new_at (W := (w.alloc (.cells #[.bool a.no, .int .i64 a.lx, .int .i64 a.ly, .int .i64 a.hx, .int .i64 a.hy] 52))) (g := w.heap.size + 1) (by simp) #[.bool b.no, .int .i64 b.lx, .int .i64 b.ly, .int .i64 b.hx, .int .i64 b.hy] 52
      have HB : Hid (Below w.heap.size w ((w.alloc (.cells #[.bool a.no, .int .i64 a.lx, .int .i64 a.ly, .int .i64 a.hx, .int .i64 a.hy] 52)).alloc (.cells #[.bool b.no, .int .i64 b.lx, .int .i64 b.ly, .int .i64 b.hx, .int .i64 b.hy] 52))) := Lib.hid (by repeat (first | exact Below.refl _ _ | refine Below.drew ?_ | refine Below.alloc ?_ (by simp <;> omega) _))
      go_enter Tryd.func42, Tryd.ntmps42
      go_upto_region 1 with (fail)
      obtain ⟨W, hW⟩ : ∃ W, ((w.alloc (.cells #[.bool a.no, .int .i64 a.lx, .int .i64 a.ly, .int .i64 a.hx, .int .i64 a.hy] 52)).alloc (.cells #[.bool b.no, .int .i64 b.lx, .int .i64 b.ly, .int .i64 b.hx, .int .i64 b.hy] 52)) = W := ⟨_, rfl⟩
      rw [hW] at A B HB ⊢
      clear hW
      obtain ⟨a0, a1, a2, a3, a4⟩ := Blk.cells5 A
      obtain ⟨b0, b1, b2, b3, b4⟩ := Blk.cells5 B
      go_wp2_with fail
      have HBk := Lib.hid (Bel.refl W)
      have hS0 := And.intro a0 (And.intro a1 (And.intro a2 (And.intro a3 (And.intro a4 (And.intro b0 (And.intro b1 (And.intro b2 (And.intro b3 (And.intro b4 (HBk.out))))))))))
      first | go_region_held3 (fun w' => w'.cell? ⟨w.heap.size, 0, none⟩ = some (.bool a.no) ∧ w'.cell? ⟨w.heap.size, 1, none⟩ = some (.int .i64 a.lx) ∧ w'.cell? ⟨w.heap.size, 2, none⟩ = some (.int .i64 a.ly) ∧ w'.cell? ⟨w.heap.size, 3, none⟩ = some (.int .i64 a.hx) ∧ w'.cell? ⟨w.heap.size, 4, none⟩ = some (.int .i64 a.hy) ∧ w'.cell? ⟨w.heap.size + 1, 0, none⟩ = some (.bool b.no) ∧ w'.cell? ⟨w.heap.size + 1, 1, none⟩ = some (.int .i64 b.lx) ∧ w'.cell? ⟨w.heap.size + 1, 2, none⟩ = some (.int .i64 b.ly) ∧ w'.cell? ⟨w.heap.size + 1, 3, none⟩ = some (.int .i64 b.hx) ∧ w'.cell? ⟨w.heap.size + 1, 4, none⟩ = some (.int .i64 b.hy) ∧ Bel W w') (first | with_reducible assumption | with_reducible exact kb2 hb (by assumption) | with_reducible exact kb2 (Bel.drew _) hS0)
        (first
        | (go_at_call 74; refine (HH.out _ _ _ (by assumption)).mono ?_; rintro e w' ⟨rfl, hb⟩)
        | (go_at_call 41; refine (HU.out _).mono ?_; rintro e w' ⟨rfl, hb⟩)) | fail
      all_goals
        rename_i hheld
        obtain ⟨a0, a1, a2, a3, a4, b0, b1, b2, b3, b4, hend⟩ := hheld
        have HB := Lib.hid (bthen HB.out hend)
        clear hend hS0
        go_wp2
        go_ret
        exact ⟨by simp, HB.out⟩
set_option maxHeartbeats 2000000 in
set_option maxRecDepth 100000 in
theorem equal_calls (a b : Bx) (w : World) : Calls Tryd.prog 43 #[.agg #[.bool a.no, .int .i64 a.lx, .int .i64 a.ly, .int .i64 a.hx, .int .i64 a.hy], .agg #[.bool b.no, .int .i64 b.lx, .int .i64 b.ly, .int .i64 b.hx, .int .i64 b.hy]] w fun e w' => e = .returned (.bool (MBox.equal a b)) ∧ Bel w w' := by
  have HH := Lib.hid has_is
  have q1 := eqB a b
  have hq : MBox.equal a b = (if MBox.has a != MBox.has b then false else !MBox.has a || MBox.same a b) := rfl
  rw [hq]
  clear hq
  obtain ⟨sm, hsm⟩ : ∃ u, MBox.same a b = u := ⟨_, rfl⟩
  rw [hsm] at q1 ⊢
  clear hsm
  cases hA : MBox.has a <;> cases hB : MBox.has b
  all_goals
    have A := (Blk.new w #[.bool a.no, .int .i64 a.lx, .int .i64 a.ly, .int .i64 a.hx, .int .i64 a.hy] 52).alloc (.cells #[.bool b.no, .int .i64 b.lx, .int .i64 b.ly, .int .i64 b.hx, .int .i64 b.hy] 52)
    have B := Blk.new_at (W := (w.alloc (.cells #[.bool a.no, .int .i64 a.lx, .int .i64 a.ly, .int .i64 a.hx, .int .i64 a.hy] 52))) (g := w.heap.size + 1) (by simp) #[.bool b.no, .int .i64 b.lx, .int .i64 b.ly, .int .i64 b.hx, .int .i64 b.hy] 52
    have HB : Hid (Below w.heap.size w ((w.alloc (.cells #[.bool a.no, .int .i64 a.lx, .int .i64 a.ly, .int .i64 a.hx, .int .i64 a.hy] 52)).alloc (.cells #[.bool b.no, .int .i64 b.lx, .int .i64 b.ly, .int .i64 b.hx, .int .i64 b.hy] 52))) := Lib.hid (by repeat (first | exact Below.refl _ _ | refine Below.drew ?_ | refine Below.alloc ?_ (by simp <;> omega) _))
    go_enter Tryd.func43, Tryd.ntmps43
    go_upto_region 1 with (fail)
    obtain ⟨W, hW⟩ : ∃ W, ((w.alloc (.cells #[.bool a.no, .int .i64 a.lx, .int .i64 a.ly, .int .i64 a.hx, .int .i64 a.hy] 52)).alloc (.cells #[.bool b.no, .int .i64 b.lx, .int .i64 b.ly, .int .i64 b.hx, .int .i64 b.hy] 52)) = W := ⟨_, rfl⟩
    rw [hW] at A B HB ⊢
    clear hW
    obtain ⟨a0, a1, a2, a3, a4⟩ := Blk.cells5 A
    obtain ⟨b0, b1, b2, b3, b4⟩ := Blk.cells5 B
    go_wp2_with fail
    have HBk := Lib.hid (Bel.refl W)
    have hS0 := And.intro a0 (And.intro a1 (And.intro a2 (And.intro a3 (And.intro a4 (And.intro b0 (And.intro b1 (And.intro b2 (And.intro b3 (And.intro b4 (HBk.out))))))))))
    first | go_region_held3 (fun w' => w'.cell? ⟨w.heap.size, 0, none⟩ = some (.bool a.no) ∧ w'.cell? ⟨w.heap.size, 1, none⟩ = some (.int .i64 a.lx) ∧ w'.cell? ⟨w.heap.size, 2, none⟩ = some (.int .i64 a.ly) ∧ w'.cell? ⟨w.heap.size, 3, none⟩ = some (.int .i64 a.hx) ∧ w'.cell? ⟨w.heap.size, 4, none⟩ = some (.int .i64 a.hy) ∧ w'.cell? ⟨w.heap.size + 1, 0, none⟩ = some (.bool b.no) ∧ w'.cell? ⟨w.heap.size + 1, 1, none⟩ = some (.int .i64 b.lx) ∧ w'.cell? ⟨w.heap.size + 1, 2, none⟩ = some (.int .i64 b.ly) ∧ w'.cell? ⟨w.heap.size + 1, 3, none⟩ = some (.int .i64 b.hx) ∧ w'.cell? ⟨w.heap.size + 1, 4, none⟩ = some (.int .i64 b.hy) ∧ Bel W w') (first | with_reducible assumption | with_reducible exact kb2 hb (by assumption) | with_reducible exact kb2 (Bel.drew _) hS0)
      (first
      | (go_at_call 74; refine (HH.out _ _ _ (by assumption)).mono ?_; rintro e w' ⟨rfl, hb⟩)) | fail
    all_goals
      rename_i hheld
      obtain ⟨a0, a1, a2, a3, a4, b0, b1, b2, b3, b4, hend⟩ := hheld
      have HB := Lib.hid (bthen HB.out hend)
      clear hend hS0
      go_wp2_with (go_at_call 74; refine (HH.out _ _ _ (by assumption)).mono ?_; rintro e w2 ⟨rfl, hb2⟩; have HB := Lib.hid (bthen HB.out hb2); obtain ⟨a0, a1, a2, a3, a4, b0, b1, b2, b3, b4⟩ := kbb hb2 (And.intro a0 (And.intro a1 (And.intro a2 (And.intro a3 (And.intro a4 (And.intro b0 (And.intro b1 (And.intro b2 (And.intro b3 b4))))))))); clear hb2)
      go_ret
      exact ⟨by simp, HB.out⟩
theorem Blk.cells4 {W : World} {g t : Nat} {x y z p : Value} (h : Blk W g #[x, y, z, p] t) : W.cell? ⟨g, 0, none⟩ = some x ∧ W.cell? ⟨g, 1, none⟩ = some y ∧ W.cell? ⟨g, 2, none⟩ = some z ∧ W.cell? ⟨g, 3, none⟩ = some p :=
  ⟨h.cell 0 rfl, h.cell 1 rfl, h.cell 2 rfl, h.cell 3 rfl⟩
theorem Blk.set4 {W : World} {g t : Nat} {x y z p x' y' z' p' : Value} (h : Blk W g #[x, y, z, p] t) : Blk ((((W.setCell ⟨g, 0, none⟩ x').setCell ⟨g, 1, none⟩ y').setCell ⟨g, 2, none⟩ z').setCell ⟨g, 3, none⟩ p') g #[x', y', z', p'] t := by
  have := (((h.set 0 x').set 1 y').set 2 z').set 3 p'
  exact this
theorem below_set4 {B : Nat} {a w : World} (h : Below B a w) {g : Nat} (hg : B ≤ g) (x y z p : Value) : Below B a ((((w.setCell ⟨g, 0, none⟩ x).setCell ⟨g, 1, none⟩ y).setCell ⟨g, 2, none⟩ z).setCell ⟨g, 3, none⟩ p) :=
  below_set (below_set (below_set (below_set h hg x) hg y) hg z) hg p
set_option maxHeartbeats 2000000 in
set_option maxRecDepth 100000 in
theorem sides_calls (b : Bx) (w : World) : Calls Tryd.prog 75 #[.agg #[.bool b.no, .int .i64 b.lx, .int .i64 b.ly, .int .i64 b.hx, .int .i64 b.hy]] w fun e w' => e = .returned (.agg #[.int .i64 b.lx, .int .i64 b.hx, .int .i64 b.ly, .int .i64 b.hy]) ∧ Bel w w' := by
  have A := (Blk.new w #[.bool b.no, .int .i64 b.lx, .int .i64 b.ly, .int .i64 b.hx, .int .i64 b.hy] 52).alloc (.cells #[.int .i64 0, .int .i64 0, .int .i64 0, .int .i64 0] 102)
  have R := Blk.new_at (W := (w.alloc (.cells #[.bool b.no, .int .i64 b.lx, .int .i64 b.ly, .int .i64 b.hx, .int .i64 b.hy] 52))) (g := w.heap.size + 1) (by simp) #[.int .i64 0, .int .i64 0, .int .i64 0, .int .i64 0] 102
  have HB : Hid (Below w.heap.size w ((w.alloc (.cells #[.bool b.no, .int .i64 b.lx, .int .i64 b.ly, .int .i64 b.hx, .int .i64 b.hy] 52)).alloc (.cells #[.int .i64 0, .int .i64 0, .int .i64 0, .int .i64 0] 102))) := Lib.hid (by repeat (first | exact Below.refl _ _ | refine Below.drew ?_ | refine Below.alloc ?_ (by simp <;> omega) _))
  go_enter Tryd.func75, Tryd.ntmps75
  go_upto_region 1 with (fail)
  obtain ⟨W, hW⟩ : ∃ W, ((w.alloc (.cells #[.bool b.no, .int .i64 b.lx, .int .i64 b.ly, .int .i64 b.hx, .int .i64 b.hy] 52)).alloc (.cells #[.int .i64 0, .int .i64 0, .int .i64 0, .int .i64 0] 102)) = W := ⟨_, rfl⟩
  rw [hW] at A R HB ⊢
  clear hW
  obtain ⟨a0, a1, a2, a3, a4⟩ := Blk.cells5 A
  obtain ⟨r0, r1, r2, r3⟩ := Blk.cells4 R
  have rf0 := R.froz 0; have rf1 := R.froz 1; have rf2 := R.froz 2; have rf3 := R.froz 3
  go_wp2
  refine bodyPost_ret (v := .agg #[.int .i64 b.lx, .int .i64 b.hx, .int .i64 b.ly, .int .i64 b.hy]) ?_ rfl ⟨rfl, below_set4 HB.out (by omega) _ _ _ _⟩
  obtain ⟨q0, q1, q2, q3⟩ := Blk.cells4 (Blk.set4 R (x' := .int .i64 b.lx) (y' := .int .i64 b.hx) (z' := .int .i64 b.ly) (p' := .int .i64 b.hy))
  simp [results, Tryd.results75, go_sem, q0, q1, q2, q3]
set_option maxHeartbeats 2000000 in
set_option maxRecDepth 100000 in
theorem refMeets_calls (a b : Bx) (w : World) : Calls Tryd.prog 51 #[.agg #[.bool a.no, .int .i64 a.lx, .int .i64 a.ly, .int .i64 a.hx, .int .i64 a.hy], .agg #[.bool b.no, .int .i64 b.lx, .int .i64 b.ly, .int .i64 b.hx, .int .i64 b.hy]] w fun e w' => e = .returned (.bool (MBox.meets a b)) ∧ Bel w w' := by
  have HH := Lib.hid refHas_is
  unfold MBox.meets
  cases hA : MBox.has a with
  | false =>
    have A := (Blk.new w #[.bool a.no, .int .i64 a.lx, .int .i64 a.ly, .int .i64 a.hx, .int .i64 a.hy] 52).alloc (.cells #[.bool b.no, .int .i64 b.lx, .int .i64 b.ly, .int .i64 b.hx, .int .i64 b.hy] 52)
    have B := Blk.new_at (W := (w.alloc (.cells #[.bool a.no, .int .i64 a.lx, .int .i64 a.ly, .int .i64 a.hx, .int .i64 a.hy] 52))) (g := w.heap.size + 1) (by simp) #[.bool b.no, .int .i64 b.lx, .int .i64 b.ly, .int .i64 b.hx, .int .i64 b.hy] 52
    have HB : Hid (Below w.heap.size w ((w.alloc (.cells #[.bool a.no, .int .i64 a.lx, .int .i64 a.ly, .int .i64 a.hx, .int .i64 a.hy] 52)).alloc (.cells #[.bool b.no, .int .i64 b.lx, .int .i64 b.ly, .int .i64 b.hx, .int .i64 b.hy] 52))) := Lib.hid (by repeat (first | exact Below.refl _ _ | refine Below.drew ?_ | refine Below.alloc ?_ (by simp <;> omega) _))
    go_enter Tryd.func51, Tryd.ntmps51
    go_upto_region 1 with (fail)
    obtain ⟨W, hW⟩ : ∃ W, ((w.alloc (.cells #[.bool a.no, .int .i64 a.lx, .int .i64 a.ly, .int .i64 a.hx, .int .i64 a.hy] 52)).alloc (.cells #[.bool b.no, .int .i64 b.lx, .int .i64 b.ly, .int .i64 b.hx, .int .i64 b.hy] 52)) = W := ⟨_, rfl⟩
    rw [hW] at A B HB ⊢
    clear hW
    obtain ⟨a0, a1, a2, a3, a4⟩ := Blk.cells5 A
    obtain ⟨b0, b1, b2, b3, b4⟩ := Blk.cells5 B
    go_wp2_with (go_at_call 80; refine (HH.out _ _ _ (by assumption)).mono ?_; rintro e w' ⟨rfl, hb⟩; clear a0 a1 a2 a3 a4 b0 b1 b2 b3 b4; have A := Blk.bel A hb; have B := Blk.bel B hb; have HB := Lib.hid (bthen HB.out hb); clear hb; obtain ⟨a0, a1, a2, a3, a4⟩ := Blk.cells5 A; obtain ⟨b0, b1, b2, b3, b4⟩ := Blk.cells5 B)
    go_ret
    exact ⟨by simp, HB.out⟩
  | true =>
    cases hB : MBox.has b with
    | false =>
      have A := (Blk.new w #[.bool a.no, .int .i64 a.lx, .int .i64 a.ly, .int .i64 a.hx, .int .i64 a.hy] 52).alloc (.cells #[.bool b.no, .int .i64 b.lx, .int .i64 b.ly, .int .i64 b.hx, .int .i64 b.hy] 52)
      have B := Blk.new_at (W := (w.alloc (.cells #[.bool a.no, .int .i64 a.lx, .int .i64 a.ly, .int .i64 a.hx, .int .i64 a.hy] 52))) (g := w.heap.size + 1) (by simp) #[.bool b.no, .int .i64 b.lx, .int .i64 b.ly, .int .i64 b.hx, .int .i64 b.hy] 52
      have HB : Hid (Below w.heap.size w ((w.alloc (.cells #[.bool a.no, .int .i64 a.lx, .int .i64 a.ly, .int .i64 a.hx, .int .i64 a.hy] 52)).alloc (.cells #[.bool b.no, .int .i64 b.lx, .int .i64 b.ly, .int .i64 b.hx, .int .i64 b.hy] 52))) := Lib.hid (by repeat (first | exact Below.refl _ _ | refine Below.drew ?_ | refine Below.alloc ?_ (by simp <;> omega) _))
      go_enter Tryd.func51, Tryd.ntmps51
      go_upto_region 1 with (fail)
      obtain ⟨W, hW⟩ : ∃ W, ((w.alloc (.cells #[.bool a.no, .int .i64 a.lx, .int .i64 a.ly, .int .i64 a.hx, .int .i64 a.hy] 52)).alloc (.cells #[.bool b.no, .int .i64 b.lx, .int .i64 b.ly, .int .i64 b.hx, .int .i64 b.hy] 52)) = W := ⟨_, rfl⟩
      rw [hW] at A B HB ⊢
      clear hW
      obtain ⟨a0, a1, a2, a3, a4⟩ := Blk.cells5 A
      obtain ⟨b0, b1, b2, b3, b4⟩ := Blk.cells5 B
      go_wp2_with (go_at_call 80; refine (HH.out _ _ _ (by assumption)).mono ?_; rintro e w' ⟨rfl, hb⟩; clear a0 a1 a2 a3 a4 b0 b1 b2 b3 b4; have A := Blk.bel A hb; have B := Blk.bel B hb; have HB := Lib.hid (bthen HB.out hb); clear hb; obtain ⟨a0, a1, a2, a3, a4⟩ := Blk.cells5 A; obtain ⟨b0, b1, b2, b3, b4⟩ := Blk.cells5 B)
      go_ret
      exact ⟨by simp, HB.out⟩
    | true =>
      cases c1 : decide (a.lx ≤ b.hx) with
      | false =>
        have A := (Blk.new w #[.bool a.no, .int .i64 a.lx, .int .i64 a.ly, .int .i64 a.hx, .int .i64 a.hy] 52).alloc (.cells #[.bool b.no, .int .i64 b.lx, .int .i64 b.ly, .int .i64 b.hx, .int .i64 b.hy] 52)
        have B := Blk.new_at (W := (w.alloc (.cells #[.bool a.no, .int .i64 a.lx, .int .i64 a.ly, .int .i64 a.hx, .int .i64 a.hy] 52))) (g := w.heap.size + 1) (by simp) #[.bool b.no, .int .i64 b.lx, .int .i64 b.ly, .int .i64 b.hx, .int .i64 b.hy] 52
        have HB : Hid (Below w.heap.size w ((w.alloc (.cells #[.bool a.no, .int .i64 a.lx, .int .i64 a.ly, .int .i64 a.hx, .int .i64 a.hy] 52)).alloc (.cells #[.bool b.no, .int .i64 b.lx, .int .i64 b.ly, .int .i64 b.hx, .int .i64 b.hy] 52))) := Lib.hid (by repeat (first | exact Below.refl _ _ | refine Below.drew ?_ | refine Below.alloc ?_ (by simp <;> omega) _))
        go_enter Tryd.func51, Tryd.ntmps51
        go_upto_region 1 with (fail)
        obtain ⟨W, hW⟩ : ∃ W, ((w.alloc (.cells #[.bool a.no, .int .i64 a.lx, .int .i64 a.ly, .int .i64 a.hx, .int .i64 a.hy] 52)).alloc (.cells #[.bool b.no, .int .i64 b.lx, .int .i64 b.ly, .int .i64 b.hx, .int .i64 b.hy] 52)) = W := ⟨_, rfl⟩
        rw [hW] at A B HB ⊢
        clear hW
        obtain ⟨a0, a1, a2, a3, a4⟩ := Blk.cells5 A
        obtain ⟨b0, b1, b2, b3, b4⟩ := Blk.cells5 B
        go_wp2_with (go_at_call 80; refine (HH.out _ _ _ (by assumption)).mono ?_; rintro e w' ⟨rfl, hb⟩; clear a0 a1 a2 a3 a4 b0 b1 b2 b3 b4; have A := Blk.bel A hb; have B := Blk.bel B hb; have HB := Lib.hid (bthen HB.out hb); clear hb; obtain ⟨a0, a1, a2, a3, a4⟩ := Blk.cells5 A; obtain ⟨b0, b1, b2, b3, b4⟩ := Blk.cells5 B)
        go_ret
        exact ⟨by simp, HB.out⟩
      | true =>
        cases c2 : decide (b.lx ≤ a.hx) with
        | false =>
          have A := (Blk.new w #[.bool a.no, .int .i64 a.lx, .int .i64 a.ly, .int .i64 a.hx, .int .i64 a.hy] 52).alloc (.cells #[.bool b.no, .int .i64 b.lx, .int .i64 b.ly, .int .i64 b.hx, .int .i64 b.hy] 52)
          have B := Blk.new_at (W := (w.alloc (.cells #[.bool a.no, .int .i64 a.lx, .int .i64 a.ly, .int .i64 a.hx, .int .i64 a.hy] 52))) (g := w.heap.size + 1) (by simp) #[.bool b.no, .int .i64 b.lx, .int .i64 b.ly, .int .i64 b.hx, .int .i64 b.hy] 52
          have HB : Hid (Below w.heap.size w ((w.alloc (.cells #[.bool a.no, .int .i64 a.lx, .int .i64 a.ly, .int .i64 a.hx, .int .i64 a.hy] 52)).alloc (.cells #[.bool b.no, .int .i64 b.lx, .int .i64 b.ly, .int .i64 b.hx, .int .i64 b.hy] 52))) := Lib.hid (by repeat (first | exact Below.refl _ _ | refine Below.drew ?_ | refine Below.alloc ?_ (by simp <;> omega) _))
          go_enter Tryd.func51, Tryd.ntmps51
          go_upto_region 1 with (fail)
          obtain ⟨W, hW⟩ : ∃ W, ((w.alloc (.cells #[.bool a.no, .int .i64 a.lx, .int .i64 a.ly, .int .i64 a.hx, .int .i64 a.hy] 52)).alloc (.cells #[.bool b.no, .int .i64 b.lx, .int .i64 b.ly, .int .i64 b.hx, .int .i64 b.hy] 52)) = W := ⟨_, rfl⟩
          rw [hW] at A B HB ⊢
          clear hW
          obtain ⟨a0, a1, a2, a3, a4⟩ := Blk.cells5 A
          obtain ⟨b0, b1, b2, b3, b4⟩ := Blk.cells5 B
          go_wp2_with (go_at_call 80; refine (HH.out _ _ _ (by assumption)).mono ?_; rintro e w' ⟨rfl, hb⟩; clear a0 a1 a2 a3 a4 b0 b1 b2 b3 b4; have A := Blk.bel A hb; have B := Blk.bel B hb; have HB := Lib.hid (bthen HB.out hb); clear hb; obtain ⟨a0, a1, a2, a3, a4⟩ := Blk.cells5 A; obtain ⟨b0, b1, b2, b3, b4⟩ := Blk.cells5 B)
          go_ret
          exact ⟨by simp, HB.out⟩
        | true =>
          cases c3 : decide (a.ly ≤ b.hy) with
          | false =>
            have A := (Blk.new w #[.bool a.no, .int .i64 a.lx, .int .i64 a.ly, .int .i64 a.hx, .int .i64 a.hy] 52).alloc (.cells #[.bool b.no, .int .i64 b.lx, .int .i64 b.ly, .int .i64 b.hx, .int .i64 b.hy] 52)
            have B := Blk.new_at (W := (w.alloc (.cells #[.bool a.no, .int .i64 a.lx, .int .i64 a.ly, .int .i64 a.hx, .int .i64 a.hy] 52))) (g := w.heap.size + 1) (by simp) #[.bool b.no, .int .i64 b.lx, .int .i64 b.ly, .int .i64 b.hx, .int .i64 b.hy] 52
            have HB : Hid (Below w.heap.size w ((w.alloc (.cells #[.bool a.no, .int .i64 a.lx, .int .i64 a.ly, .int .i64 a.hx, .int .i64 a.hy] 52)).alloc (.cells #[.bool b.no, .int .i64 b.lx, .int .i64 b.ly, .int .i64 b.hx, .int .i64 b.hy] 52))) := Lib.hid (by repeat (first | exact Below.refl _ _ | refine Below.drew ?_ | refine Below.alloc ?_ (by simp <;> omega) _))
            go_enter Tryd.func51, Tryd.ntmps51
            go_upto_region 1 with (fail)
            obtain ⟨W, hW⟩ : ∃ W, ((w.alloc (.cells #[.bool a.no, .int .i64 a.lx, .int .i64 a.ly, .int .i64 a.hx, .int .i64 a.hy] 52)).alloc (.cells #[.bool b.no, .int .i64 b.lx, .int .i64 b.ly, .int .i64 b.hx, .int .i64 b.hy] 52)) = W := ⟨_, rfl⟩
            rw [hW] at A B HB ⊢
            clear hW
            obtain ⟨a0, a1, a2, a3, a4⟩ := Blk.cells5 A
            obtain ⟨b0, b1, b2, b3, b4⟩ := Blk.cells5 B
            go_wp2_with (go_at_call 80; refine (HH.out _ _ _ (by assumption)).mono ?_; rintro e w' ⟨rfl, hb⟩; clear a0 a1 a2 a3 a4 b0 b1 b2 b3 b4; have A := Blk.bel A hb; have B := Blk.bel B hb; have HB := Lib.hid (bthen HB.out hb); clear hb; obtain ⟨a0, a1, a2, a3, a4⟩ := Blk.cells5 A; obtain ⟨b0, b1, b2, b3, b4⟩ := Blk.cells5 B)
            go_ret
            exact ⟨by simp, HB.out⟩
          | true =>
            have A := (Blk.new w #[.bool a.no, .int .i64 a.lx, .int .i64 a.ly, .int .i64 a.hx, .int .i64 a.hy] 52).alloc (.cells #[.bool b.no, .int .i64 b.lx, .int .i64 b.ly, .int .i64 b.hx, .int .i64 b.hy] 52)
            have B := Blk.new_at (W := (w.alloc (.cells #[.bool a.no, .int .i64 a.lx, .int .i64 a.ly, .int .i64 a.hx, .int .i64 a.hy] 52))) (g := w.heap.size + 1) (by simp) #[.bool b.no, .int .i64 b.lx, .int .i64 b.ly, .int .i64 b.hx, .int .i64 b.hy] 52
            have HB : Hid (Below w.heap.size w ((w.alloc (.cells #[.bool a.no, .int .i64 a.lx, .int .i64 a.ly, .int .i64 a.hx, .int .i64 a.hy] 52)).alloc (.cells #[.bool b.no, .int .i64 b.lx, .int .i64 b.ly, .int .i64 b.hx, .int .i64 b.hy] 52))) := Lib.hid (by repeat (first | exact Below.refl _ _ | refine Below.drew ?_ | refine Below.alloc ?_ (by simp <;> omega) _))
            go_enter Tryd.func51, Tryd.ntmps51
            go_upto_region 1 with (fail)
            obtain ⟨W, hW⟩ : ∃ W, ((w.alloc (.cells #[.bool a.no, .int .i64 a.lx, .int .i64 a.ly, .int .i64 a.hx, .int .i64 a.hy] 52)).alloc (.cells #[.bool b.no, .int .i64 b.lx, .int .i64 b.ly, .int .i64 b.hx, .int .i64 b.hy] 52)) = W := ⟨_, rfl⟩
            rw [hW] at A B HB ⊢
            clear hW
            obtain ⟨a0, a1, a2, a3, a4⟩ := Blk.cells5 A
            obtain ⟨b0, b1, b2, b3, b4⟩ := Blk.cells5 B
            go_wp2_with (go_at_call 80; refine (HH.out _ _ _ (by assumption)).mono ?_; rintro e w' ⟨rfl, hb⟩; clear a0 a1 a2 a3 a4 b0 b1 b2 b3 b4; have A := Blk.bel A hb; have B := Blk.bel B hb; have HB := Lib.hid (bthen HB.out hb); clear hb; obtain ⟨a0, a1, a2, a3, a4⟩ := Blk.cells5 A; obtain ⟨b0, b1, b2, b3, b4⟩ := Blk.cells5 B)
            go_ret
            exact ⟨by simp, HB.out⟩
set_option maxHeartbeats 2000000 in
set_option maxRecDepth 100000 in
theorem refHolds_calls (a b : Bx) (w : World) : Calls Tryd.prog 52 #[.agg #[.bool a.no, .int .i64 a.lx, .int .i64 a.ly, .int .i64 a.hx, .int .i64 a.hy], .agg #[.bool b.no, .int .i64 b.lx, .int .i64 b.ly, .int .i64 b.hx, .int .i64 b.hy]] w fun e w' => e = .returned (.bool (MBox.holds a b)) ∧ Bel w w' := by
  have HH := Lib.hid refHas_is
  unfold MBox.holds
  cases hB : MBox.has b with
  | false =>
    have A := (Blk.new w #[.bool a.no, .int .i64 a.lx, .int .i64 a.ly, .int .i64 a.hx, .int .i64 a.hy] 52).alloc (.cells #[.bool b.no, .int .i64 b.lx, .int .i64 b.ly, .int .i64 b.hx, .int .i64 b.hy] 52)
    have B := Blk.new_at (W := (w.alloc (.cells #[.bool a.no, .int .i64 a.lx, .int .i64 a.ly, .int .i64 a.hx, .int .i64 a.hy] 52))) (g := w.heap.size + 1) (by simp) #[.bool b.no, .int .i64 b.lx, .int .i64 b.ly, .int .i64 b.hx, .int .i64 b.hy] 52
    have HB : Hid (Below w.heap.size w ((w.alloc (.cells #[.bool a.no, .int .i64 a.lx, .int .i64 a.ly, .int .i64 a.hx, .int .i64 a.hy] 52)).alloc (.cells #[.bool b.no, .int .i64 b.lx, .int .i64 b.ly, .int .i64 b.hx, .int .i64 b.hy] 52))) := Lib.hid (by repeat (first | exact Below.refl _ _ | refine Below.drew ?_ | refine Below.alloc ?_ (by simp <;> omega) _))
    go_enter Tryd.func52, Tryd.ntmps52
    go_upto_region 1 with (fail)
    obtain ⟨W, hW⟩ : ∃ W, ((w.alloc (.cells #[.bool a.no, .int .i64 a.lx, .int .i64 a.ly, .int .i64 a.hx, .int .i64 a.hy] 52)).alloc (.cells #[.bool b.no, .int .i64 b.lx, .int .i64 b.ly, .int .i64 b.hx, .int .i64 b.hy] 52)) = W := ⟨_, rfl⟩
    rw [hW] at A B HB ⊢
    clear hW
    obtain ⟨a0, a1, a2, a3, a4⟩ := Blk.cells5 A
    obtain ⟨b0, b1, b2, b3, b4⟩ := Blk.cells5 B
    go_wp2_with (go_at_call 80; refine (HH.out _ _ _ (by assumption)).mono ?_; rintro e w' ⟨rfl, hb⟩; clear a0 a1 a2 a3 a4 b0 b1 b2 b3 b4; have A := Blk.bel A hb; have B := Blk.bel B hb; have HB := Lib.hid (bthen HB.out hb); clear hb; obtain ⟨a0, a1, a2, a3, a4⟩ := Blk.cells5 A; obtain ⟨b0, b1, b2, b3, b4⟩ := Blk.cells5 B)
    go_ret
    exact ⟨by simp, HB.out⟩
  | true =>
    cases hA : MBox.has a with
    | false =>
      have A := (Blk.new w #[.bool a.no, .int .i64 a.lx, .int .i64 a.ly, .int .i64 a.hx, .int .i64 a.hy] 52).alloc (.cells #[.bool b.no, .int .i64 b.lx, .int .i64 b.ly, .int .i64 b.hx, .int .i64 b.hy] 52)
      have B := Blk.new_at (W := (w.alloc (.cells #[.bool a.no, .int .i64 a.lx, .int .i64 a.ly, .int .i64 a.hx, .int .i64 a.hy] 52))) (g := w.heap.size + 1) (by simp) #[.bool b.no, .int .i64 b.lx, .int .i64 b.ly, .int .i64 b.hx, .int .i64 b.hy] 52
      have HB : Hid (Below w.heap.size w ((w.alloc (.cells #[.bool a.no, .int .i64 a.lx, .int .i64 a.ly, .int .i64 a.hx, .int .i64 a.hy] 52)).alloc (.cells #[.bool b.no, .int .i64 b.lx, .int .i64 b.ly, .int .i64 b.hx, .int .i64 b.hy] 52))) := Lib.hid (by repeat (first | exact Below.refl _ _ | refine Below.drew ?_ | refine Below.alloc ?_ (by simp <;> omega) _))
      go_enter Tryd.func52, Tryd.ntmps52
      go_upto_region 1 with (fail)
      obtain ⟨W, hW⟩ : ∃ W, ((w.alloc (.cells #[.bool a.no, .int .i64 a.lx, .int .i64 a.ly, .int .i64 a.hx, .int .i64 a.hy] 52)).alloc (.cells #[.bool b.no, .int .i64 b.lx, .int .i64 b.ly, .int .i64 b.hx, .int .i64 b.hy] 52)) = W := ⟨_, rfl⟩
      rw [hW] at A B HB ⊢
      clear hW
      obtain ⟨a0, a1, a2, a3, a4⟩ := Blk.cells5 A
      obtain ⟨b0, b1, b2, b3, b4⟩ := Blk.cells5 B
      go_wp2_with (go_at_call 80; refine (HH.out _ _ _ (by assumption)).mono ?_; rintro e w' ⟨rfl, hb⟩; clear a0 a1 a2 a3 a4 b0 b1 b2 b3 b4; have A := Blk.bel A hb; have B := Blk.bel B hb; have HB := Lib.hid (bthen HB.out hb); clear hb; obtain ⟨a0, a1, a2, a3, a4⟩ := Blk.cells5 A; obtain ⟨b0, b1, b2, b3, b4⟩ := Blk.cells5 B)
      go_ret
      exact ⟨by simp, HB.out⟩
    | true =>
      cases c1 : decide (a.lx ≤ b.lx) with
      | false =>
        have A := (Blk.new w #[.bool a.no, .int .i64 a.lx, .int .i64 a.ly, .int .i64 a.hx, .int .i64 a.hy] 52).alloc (.cells #[.bool b.no, .int .i64 b.lx, .int .i64 b.ly, .int .i64 b.hx, .int .i64 b.hy] 52)
        have B := Blk.new_at (W := (w.alloc (.cells #[.bool a.no, .int .i64 a.lx, .int .i64 a.ly, .int .i64 a.hx, .int .i64 a.hy] 52))) (g := w.heap.size + 1) (by simp) #[.bool b.no, .int .i64 b.lx, .int .i64 b.ly, .int .i64 b.hx, .int .i64 b.hy] 52
        have HB : Hid (Below w.heap.size w ((w.alloc (.cells #[.bool a.no, .int .i64 a.lx, .int .i64 a.ly, .int .i64 a.hx, .int .i64 a.hy] 52)).alloc (.cells #[.bool b.no, .int .i64 b.lx, .int .i64 b.ly, .int .i64 b.hx, .int .i64 b.hy] 52))) := Lib.hid (by repeat (first | exact Below.refl _ _ | refine Below.drew ?_ | refine Below.alloc ?_ (by simp <;> omega) _))
        go_enter Tryd.func52, Tryd.ntmps52
        go_upto_region 1 with (fail)
        obtain ⟨W, hW⟩ : ∃ W, ((w.alloc (.cells #[.bool a.no, .int .i64 a.lx, .int .i64 a.ly, .int .i64 a.hx, .int .i64 a.hy] 52)).alloc (.cells #[.bool b.no, .int .i64 b.lx, .int .i64 b.ly, .int .i64 b.hx, .int .i64 b.hy] 52)) = W := ⟨_, rfl⟩
        rw [hW] at A B HB ⊢
        clear hW
        obtain ⟨a0, a1, a2, a3, a4⟩ := Blk.cells5 A
        obtain ⟨b0, b1, b2, b3, b4⟩ := Blk.cells5 B
        go_wp2_with (go_at_call 80; refine (HH.out _ _ _ (by assumption)).mono ?_; rintro e w' ⟨rfl, hb⟩; clear a0 a1 a2 a3 a4 b0 b1 b2 b3 b4; have A := Blk.bel A hb; have B := Blk.bel B hb; have HB := Lib.hid (bthen HB.out hb); clear hb; obtain ⟨a0, a1, a2, a3, a4⟩ := Blk.cells5 A; obtain ⟨b0, b1, b2, b3, b4⟩ := Blk.cells5 B)
        go_ret
        exact ⟨by simp, HB.out⟩
      | true =>
        cases c2 : decide (b.hx ≤ a.hx) with
        | false =>
          have A := (Blk.new w #[.bool a.no, .int .i64 a.lx, .int .i64 a.ly, .int .i64 a.hx, .int .i64 a.hy] 52).alloc (.cells #[.bool b.no, .int .i64 b.lx, .int .i64 b.ly, .int .i64 b.hx, .int .i64 b.hy] 52)
          have B := Blk.new_at (W := (w.alloc (.cells #[.bool a.no, .int .i64 a.lx, .int .i64 a.ly, .int .i64 a.hx, .int .i64 a.hy] 52))) (g := w.heap.size + 1) (by simp) #[.bool b.no, .int .i64 b.lx, .int .i64 b.ly, .int .i64 b.hx, .int .i64 b.hy] 52
          have HB : Hid (Below w.heap.size w ((w.alloc (.cells #[.bool a.no, .int .i64 a.lx, .int .i64 a.ly, .int .i64 a.hx, .int .i64 a.hy] 52)).alloc (.cells #[.bool b.no, .int .i64 b.lx, .int .i64 b.ly, .int .i64 b.hx, .int .i64 b.hy] 52))) := Lib.hid (by repeat (first | exact Below.refl _ _ | refine Below.drew ?_ | refine Below.alloc ?_ (by simp <;> omega) _))
          go_enter Tryd.func52, Tryd.ntmps52
          go_upto_region 1 with (fail)
          obtain ⟨W, hW⟩ : ∃ W, ((w.alloc (.cells #[.bool a.no, .int .i64 a.lx, .int .i64 a.ly, .int .i64 a.hx, .int .i64 a.hy] 52)).alloc (.cells #[.bool b.no, .int .i64 b.lx, .int .i64 b.ly, .int .i64 b.hx, .int .i64 b.hy] 52)) = W := ⟨_, rfl⟩
          rw [hW] at A B HB ⊢
          clear hW
          obtain ⟨a0, a1, a2, a3, a4⟩ := Blk.cells5 A
          obtain ⟨b0, b1, b2, b3, b4⟩ := Blk.cells5 B
          go_wp2_with (go_at_call 80; refine (HH.out _ _ _ (by assumption)).mono ?_; rintro e w' ⟨rfl, hb⟩; clear a0 a1 a2 a3 a4 b0 b1 b2 b3 b4; have A := Blk.bel A hb; have B := Blk.bel B hb; have HB := Lib.hid (bthen HB.out hb); clear hb; obtain ⟨a0, a1, a2, a3, a4⟩ := Blk.cells5 A; obtain ⟨b0, b1, b2, b3, b4⟩ := Blk.cells5 B)
          go_ret
          exact ⟨by simp, HB.out⟩
        | true =>
          cases c3 : decide (a.ly ≤ b.ly) with
          | false =>
            have A := (Blk.new w #[.bool a.no, .int .i64 a.lx, .int .i64 a.ly, .int .i64 a.hx, .int .i64 a.hy] 52).alloc (.cells #[.bool b.no, .int .i64 b.lx, .int .i64 b.ly, .int .i64 b.hx, .int .i64 b.hy] 52)
            have B := Blk.new_at (W := (w.alloc (.cells #[.bool a.no, .int .i64 a.lx, .int .i64 a.ly, .int .i64 a.hx, .int .i64 a.hy] 52))) (g := w.heap.size + 1) (by simp) #[.bool b.no, .int .i64 b.lx, .int .i64 b.ly, .int .i64 b.hx, .int .i64 b.hy] 52
            have HB : Hid (Below w.heap.size w ((w.alloc (.cells #[.bool a.no, .int .i64 a.lx, .int .i64 a.ly, .int .i64 a.hx, .int .i64 a.hy] 52)).alloc (.cells #[.bool b.no, .int .i64 b.lx, .int .i64 b.ly, .int .i64 b.hx, .int .i64 b.hy] 52))) := Lib.hid (by repeat (first | exact Below.refl _ _ | refine Below.drew ?_ | refine Below.alloc ?_ (by simp <;> omega) _))
            go_enter Tryd.func52, Tryd.ntmps52
            go_upto_region 1 with (fail)
            obtain ⟨W, hW⟩ : ∃ W, ((w.alloc (.cells #[.bool a.no, .int .i64 a.lx, .int .i64 a.ly, .int .i64 a.hx, .int .i64 a.hy] 52)).alloc (.cells #[.bool b.no, .int .i64 b.lx, .int .i64 b.ly, .int .i64 b.hx, .int .i64 b.hy] 52)) = W := ⟨_, rfl⟩
            rw [hW] at A B HB ⊢
            clear hW
            obtain ⟨a0, a1, a2, a3, a4⟩ := Blk.cells5 A
            obtain ⟨b0, b1, b2, b3, b4⟩ := Blk.cells5 B
            go_wp2_with (go_at_call 80; refine (HH.out _ _ _ (by assumption)).mono ?_; rintro e w' ⟨rfl, hb⟩; clear a0 a1 a2 a3 a4 b0 b1 b2 b3 b4; have A := Blk.bel A hb; have B := Blk.bel B hb; have HB := Lib.hid (bthen HB.out hb); clear hb; obtain ⟨a0, a1, a2, a3, a4⟩ := Blk.cells5 A; obtain ⟨b0, b1, b2, b3, b4⟩ := Blk.cells5 B)
            go_ret
            exact ⟨by simp, HB.out⟩
          | true =>
            have A := (Blk.new w #[.bool a.no, .int .i64 a.lx, .int .i64 a.ly, .int .i64 a.hx, .int .i64 a.hy] 52).alloc (.cells #[.bool b.no, .int .i64 b.lx, .int .i64 b.ly, .int .i64 b.hx, .int .i64 b.hy] 52)
            have B := Blk.new_at (W := (w.alloc (.cells #[.bool a.no, .int .i64 a.lx, .int .i64 a.ly, .int .i64 a.hx, .int .i64 a.hy] 52))) (g := w.heap.size + 1) (by simp) #[.bool b.no, .int .i64 b.lx, .int .i64 b.ly, .int .i64 b.hx, .int .i64 b.hy] 52
            have HB : Hid (Below w.heap.size w ((w.alloc (.cells #[.bool a.no, .int .i64 a.lx, .int .i64 a.ly, .int .i64 a.hx, .int .i64 a.hy] 52)).alloc (.cells #[.bool b.no, .int .i64 b.lx, .int .i64 b.ly, .int .i64 b.hx, .int .i64 b.hy] 52))) := Lib.hid (by repeat (first | exact Below.refl _ _ | refine Below.drew ?_ | refine Below.alloc ?_ (by simp <;> omega) _))
            go_enter Tryd.func52, Tryd.ntmps52
            go_upto_region 1 with (fail)
            obtain ⟨W, hW⟩ : ∃ W, ((w.alloc (.cells #[.bool a.no, .int .i64 a.lx, .int .i64 a.ly, .int .i64 a.hx, .int .i64 a.hy] 52)).alloc (.cells #[.bool b.no, .int .i64 b.lx, .int .i64 b.ly, .int .i64 b.hx, .int .i64 b.hy] 52)) = W := ⟨_, rfl⟩
            rw [hW] at A B HB ⊢
            clear hW
            obtain ⟨a0, a1, a2, a3, a4⟩ := Blk.cells5 A
            obtain ⟨b0, b1, b2, b3, b4⟩ := Blk.cells5 B
            go_wp2_with (go_at_call 80; refine (HH.out _ _ _ (by assumption)).mono ?_; rintro e w' ⟨rfl, hb⟩; clear a0 a1 a2 a3 a4 b0 b1 b2 b3 b4; have A := Blk.bel A hb; have B := Blk.bel B hb; have HB := Lib.hid (bthen HB.out hb); clear hb; obtain ⟨a0, a1, a2, a3, a4⟩ := Blk.cells5 A; obtain ⟨b0, b1, b2, b3, b4⟩ := Blk.cells5 B)
            go_ret
            exact ⟨by simp, HB.out⟩
set_option maxHeartbeats 2000000 in
set_option maxRecDepth 100000 in
theorem refEqual_calls (a b : Bx) (w : World) : Calls Tryd.prog 53 #[.agg #[.bool a.no, .int .i64 a.lx, .int .i64 a.ly, .int .i64 a.hx, .int .i64 a.hy], .agg #[.bool b.no, .int .i64 b.lx, .int .i64 b.ly, .int .i64 b.hx, .int .i64 b.hy]] w fun e w' => e = .returned (.bool (MBox.equal a b)) ∧ Bel w w' := by
  have HH := Lib.hid refHas_is
  have q1 := eqB a b
  rw [← MBox.equal_ref]
  obtain ⟨sm, hsm⟩ : ∃ u, MBox.same a b = u := ⟨_, rfl⟩
  rw [hsm] at q1 ⊢
  clear hsm
  cases hA : MBox.has a with
  | false =>
    cases hB : MBox.has b with
    | false =>
      have A := (Blk.new w #[.bool a.no, .int .i64 a.lx, .int .i64 a.ly, .int .i64 a.hx, .int .i64 a.hy] 52).alloc (.cells #[.bool b.no, .int .i64 b.lx, .int .i64 b.ly, .int .i64 b.hx, .int .i64 b.hy] 52)
      have B := Blk.new_at (W := (w.alloc (.cells #[.bool a.no, .int .i64 a.lx, .int .i64 a.ly, .int .i64 a.hx, .int .i64 a.hy] 52))) (g := w.heap.size + 1) (by simp) #[.bool b.no, .int .i64 b.lx, .int .i64 b.ly, .int .i64 b.hx, .int .i64 b.hy] 52
      have HB : Hid (Below w.heap.size w ((w.alloc (.cells #[.bool a.no, .int .i64 a.lx, .int .i64 a.ly, .int .i64 a.hx, .int .i64 a.hy] 52)).alloc (.cells #[.bool b.no, .int .i64 b.lx, .int .i64 b.ly, .int .i64 b.hx, .int .i64 b.hy] 52))) := Lib.hid (by repeat (first | exact Below.refl _ _ | refine Below.drew ?_ | refine Below.alloc ?_ (by simp <;> omega) _))
      go_enter Tryd.func53, Tryd.ntmps53
      go_upto_region 1 with (fail)
      obtain ⟨W, hW⟩ : ∃ W, ((w.alloc (.cells #[.bool a.no, .int .i64 a.lx, .int .i64 a.ly, .int .i64 a.hx, .int .i64 a.hy] 52)).alloc (.cells #[.bool b.no, .int .i64 b.lx, .int .i64 b.ly, .int .i64 b.hx, .int .i64 b.hy] 52)) = W := ⟨_, rfl⟩
      rw [hW] at A B HB ⊢
      clear hW
      obtain ⟨a0, a1, a2, a3, a4⟩ := Blk.cells5 A
      obtain ⟨b0, b1, b2, b3, b4⟩ := Blk.cells5 B
      go_wp2_with (go_at_call 80; refine (HH.out _ _ _ (by assumption)).mono ?_; rintro e w' ⟨rfl, hb⟩; clear a0 a1 a2 a3 a4 b0 b1 b2 b3 b4; have A := Blk.bel A hb; have B := Blk.bel B hb; have HB := Lib.hid (bthen HB.out hb); clear hb; obtain ⟨a0, a1, a2, a3, a4⟩ := Blk.cells5 A; obtain ⟨b0, b1, b2, b3, b4⟩ := Blk.cells5 B)
      go_ret
      exact ⟨by simp, HB.out⟩
    | true =>
      have A := (Blk.new w #[.bool a.no, .int .i64 a.lx, .int .i64 a.ly, .int .i64 a.hx, .int .i64 a.hy] 52).alloc (.cells #[.bool b.no, .int .i64 b.lx, .int .i64 b.ly, .int .i64 b.hx, .int .i64 b.hy] 52)
      have B := Blk.new_at (W := (w.alloc (.cells #[.bool a.no, .int .i64 a.lx, .int .i64 a.ly, .int .i64 a.hx, .int .i64 a.hy] 52))) (g := w.heap.size + 1) (by simp) #[.bool b.no, .int .i64 b.lx, .int .i64 b.ly, .int .i64 b.hx, .int .i64 b.hy] 52
      have HB : Hid (Below w.heap.size w ((w.alloc (.cells #[.bool a.no, .int .i64 a.lx, .int .i64 a.ly, .int .i64 a.hx, .int .i64 a.hy] 52)).alloc (.cells #[.bool b.no, .int .i64 b.lx, .int .i64 b.ly, .int .i64 b.hx, .int .i64 b.hy] 52))) := Lib.hid (by repeat (first | exact Below.refl _ _ | refine Below.drew ?_ | refine Below.alloc ?_ (by simp <;> omega) _))
      go_enter Tryd.func53, Tryd.ntmps53
      go_upto_region 1 with (fail)
      obtain ⟨W, hW⟩ : ∃ W, ((w.alloc (.cells #[.bool a.no, .int .i64 a.lx, .int .i64 a.ly, .int .i64 a.hx, .int .i64 a.hy] 52)).alloc (.cells #[.bool b.no, .int .i64 b.lx, .int .i64 b.ly, .int .i64 b.hx, .int .i64 b.hy] 52)) = W := ⟨_, rfl⟩
      rw [hW] at A B HB ⊢
      clear hW
      obtain ⟨a0, a1, a2, a3, a4⟩ := Blk.cells5 A
      obtain ⟨b0, b1, b2, b3, b4⟩ := Blk.cells5 B
      go_wp2_with (go_at_call 80; refine (HH.out _ _ _ (by assumption)).mono ?_; rintro e w' ⟨rfl, hb⟩; clear a0 a1 a2 a3 a4 b0 b1 b2 b3 b4; have A := Blk.bel A hb; have B := Blk.bel B hb; have HB := Lib.hid (bthen HB.out hb); clear hb; obtain ⟨a0, a1, a2, a3, a4⟩ := Blk.cells5 A; obtain ⟨b0, b1, b2, b3, b4⟩ := Blk.cells5 B)
      go_ret
      exact ⟨by simp, HB.out⟩
  | true =>
    cases hB : MBox.has b with
    | false =>
      have A := (Blk.new w #[.bool a.no, .int .i64 a.lx, .int .i64 a.ly, .int .i64 a.hx, .int .i64 a.hy] 52).alloc (.cells #[.bool b.no, .int .i64 b.lx, .int .i64 b.ly, .int .i64 b.hx, .int .i64 b.hy] 52)
      have B := Blk.new_at (W := (w.alloc (.cells #[.bool a.no, .int .i64 a.lx, .int .i64 a.ly, .int .i64 a.hx, .int .i64 a.hy] 52))) (g := w.heap.size + 1) (by simp) #[.bool b.no, .int .i64 b.lx, .int .i64 b.ly, .int .i64 b.hx, .int .i64 b.hy] 52
      have HB : Hid (Below w.heap.size w ((w.alloc (.cells #[.bool a.no, .int .i64 a.lx, .int .i64 a.ly, .int .i64 a.hx, .int .i64 a.hy] 52)).alloc (.cells #[.bool b.no, .int .i64 b.lx, .int .i64 b.ly, .int .i64 b.hx, .int .i64 b.hy] 52))) := Lib.hid (by repeat (first | exact Below.refl _ _ | refine Below.drew ?_ | refine Below.alloc ?_ (by simp <;> omega) _))
      go_enter Tryd.func53, Tryd.ntmps53
      go_upto_region 1 with (fail)
      obtain ⟨W, hW⟩ : ∃ W, ((w.alloc (.cells #[.bool a.no, .int .i64 a.lx, .int .i64 a.ly, .int .i64 a.hx, .int .i64 a.hy] 52)).alloc (.cells #[.bool b.no, .int .i64 b.lx, .int .i64 b.ly, .int .i64 b.hx, .int .i64 b.hy] 52)) = W := ⟨_, rfl⟩
      rw [hW] at A B HB ⊢
      clear hW
      obtain ⟨a0, a1, a2, a3, a4⟩ := Blk.cells5 A
      obtain ⟨b0, b1, b2, b3, b4⟩ := Blk.cells5 B
      go_wp2_with (go_at_call 80; refine (HH.out _ _ _ (by assumption)).mono ?_; rintro e w' ⟨rfl, hb⟩; clear a0 a1 a2 a3 a4 b0 b1 b2 b3 b4; have A := Blk.bel A hb; have B := Blk.bel B hb; have HB := Lib.hid (bthen HB.out hb); clear hb; obtain ⟨a0, a1, a2, a3, a4⟩ := Blk.cells5 A; obtain ⟨b0, b1, b2, b3, b4⟩ := Blk.cells5 B)
      go_ret
      exact ⟨by simp, HB.out⟩
    | true =>
      have A := (Blk.new w #[.bool a.no, .int .i64 a.lx, .int .i64 a.ly, .int .i64 a.hx, .int .i64 a.hy] 52).alloc (.cells #[.bool b.no, .int .i64 b.lx, .int .i64 b.ly, .int .i64 b.hx, .int .i64 b.hy] 52)
      have B := Blk.new_at (W := (w.alloc (.cells #[.bool a.no, .int .i64 a.lx, .int .i64 a.ly, .int .i64 a.hx, .int .i64 a.hy] 52))) (g := w.heap.size + 1) (by simp) #[.bool b.no, .int .i64 b.lx, .int .i64 b.ly, .int .i64 b.hx, .int .i64 b.hy] 52
      have HB : Hid (Below w.heap.size w ((w.alloc (.cells #[.bool a.no, .int .i64 a.lx, .int .i64 a.ly, .int .i64 a.hx, .int .i64 a.hy] 52)).alloc (.cells #[.bool b.no, .int .i64 b.lx, .int .i64 b.ly, .int .i64 b.hx, .int .i64 b.hy] 52))) := Lib.hid (by repeat (first | exact Below.refl _ _ | refine Below.drew ?_ | refine Below.alloc ?_ (by simp <;> omega) _))
      go_enter Tryd.func53, Tryd.ntmps53
      go_upto_region 1 with (fail)
      obtain ⟨W, hW⟩ : ∃ W, ((w.alloc (.cells #[.bool a.no, .int .i64 a.lx, .int .i64 a.ly, .int .i64 a.hx, .int .i64 a.hy] 52)).alloc (.cells #[.bool b.no, .int .i64 b.lx, .int .i64 b.ly, .int .i64 b.hx, .int .i64 b.hy] 52)) = W := ⟨_, rfl⟩
      rw [hW] at A B HB ⊢
      clear hW
      obtain ⟨a0, a1, a2, a3, a4⟩ := Blk.cells5 A
      obtain ⟨b0, b1, b2, b3, b4⟩ := Blk.cells5 B
      go_wp2_with (go_at_call 80; refine (HH.out _ _ _ (by assumption)).mono ?_; rintro e w' ⟨rfl, hb⟩; clear a0 a1 a2 a3 a4 b0 b1 b2 b3 b4; have A := Blk.bel A hb; have B := Blk.bel B hb; have HB := Lib.hid (bthen HB.out hb); clear hb; obtain ⟨a0, a1, a2, a3, a4⟩ := Blk.cells5 A; obtain ⟨b0, b1, b2, b3, b4⟩ := Blk.cells5 B)
      go_ret
      exact ⟨by simp, HB.out⟩

end Go.Proofs.YtakkifedcbhgfaaDoor.K
