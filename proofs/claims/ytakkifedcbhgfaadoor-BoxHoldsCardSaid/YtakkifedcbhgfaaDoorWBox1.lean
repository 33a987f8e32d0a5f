/- Boxes: equality, none, good, has. -/
import Derived.Test.YtakkifedcbhgfaaDoorBase
import Derived.Handy
import Derived.Test.YtakkifedcbhgfaaDoorWLaw01c
import Derived.Test.YtakkifedcbhgfaaDoorMBox
namespace Go.Proofs.YtakkifedcbhgfaaDoor.K
open Go Go.RowKit Go.Proofs.YtakkifedcbhgfaaDoorW.PrintWords Go.Proofs.YtakkifedcbhgfaaDoorW.PrintLast Go.Proofs.YtakkifedcbhgfaaDoorW.PrintMore
set_option linter.unusedVariables false
set_option linter.unusedSimpArgs false
open Go.Proofs.YtakkifedcbhgfaaDoor.MWide (W64 U192 addV subV addOk subOk cmpV)
open Go.Proofs.YtakkifedcbhgfaaDoor.MBox (Bx)
set_option maxRecDepth 100000 in
theorem eqP_in (d : Nat) (x y x' y' : Int) (w : World) : (Op.equalIn (d + 2) 50 (.agg #[.int .i64 x, .int .i64 y]) (.agg #[.int .i64 x', .int .i64 y'])).run Tryd.prog w = .ok (x == x' && y == y') w := by
  rw [run_equalIn_struct w (d + 1) 50 _ _ (by kernel_rfl) (by kernel_rfl)]
  simp only [Program.fieldsOf, Tryd.underlying50]
  cases hx : (x == x') <;> cases hy : (y == y') <;> simp [Op.eqFields, go_sem, Tryd.underlying3, hx, hy]
set_option maxRecDepth 100000 in
theorem eqB_in (d : Nat) (a b : Bx) (w : World) : (Op.equalIn (d + 3) 52 (.agg #[.bool a.no, .int .i64 a.lx, .int .i64 a.ly, .int .i64 a.hx, .int .i64 a.hy]) (.agg #[.bool b.no, .int .i64 b.lx, .int .i64 b.ly, .int .i64 b.hx, .int .i64 b.hy])).run Tryd.prog w = .ok (MBox.same a b) w := by
  rw [run_equalIn_struct w (d + 2) 52 _ _ (by kernel_rfl) (by kernel_rfl)]
  simp only [Program.fieldsOf, Tryd.underlying52]
  by_cases h0 : a.no = b.no <;> by_cases h1 : a.lx = b.lx <;> by_cases h2 : a.ly = b.ly <;> by_cases h3 : a.hx = b.hx <;> by_cases h4 : a.hy = b.hy <;> simp [Op.eqFields, go_sem, Tryd.underlying4, Tryd.underlying3, Tryd.underlying50, MBox.same, h0, h1, h2, h3, h4]
set_option maxRecDepth 100000 in
theorem eqB (a b : Bx) (w : World) : (binOp .eql 52 (.agg #[.bool a.no, .int .i64 a.lx, .int .i64 a.ly, .int .i64 a.hx, .int .i64 a.hy]) (.agg #[.bool b.no, .int .i64 b.lx, .int .i64 b.ly, .int .i64 b.hx, .int .i64 b.hy])).run Tryd.prog w = .ok (.bool (MBox.same a b)) w := by
  unfold binOp
  simp only [Sem.run_bind, Op.equal, Op.maxDepth, eqB_in 9997 a b, Result.andThen_ok, Sem.run_pure]


theorem Blk.cells5 {W : World} {g t : Nat} {x y z p q : Value} (h : Blk W g #[x, y, z, p, q] t) : W.cell? ⟨g, 0, none⟩ = some x ∧ W.cell? ⟨g, 1, none⟩ = some y ∧ W.cell? ⟨g, 2, none⟩ = some z ∧ W.cell? ⟨g, 3, none⟩ = some p ∧ W.cell? ⟨g, 4, none⟩ = some q :=
  ⟨h.cell 0 rfl, h.cell 1 rfl, h.cell 2 rfl, h.cell 3 rfl, h.cell 4 rfl⟩
theorem Blk.set5 {W : World} {g t : Nat} {x y z p q x' y' z' p' q' : Value} (h : Blk W g #[x, y, z, p, q] t) : Blk (((((W.setCell ⟨g, 0, none⟩ x').setCell ⟨g, 1, none⟩ y').setCell ⟨g, 2, none⟩ z').setCell ⟨g, 3, none⟩ p').setCell ⟨g, 4, none⟩ q') g #[x', y', z', p', q'] t := by
  have := ((((h.set 0 x').set 1 y').set 2 z').set 3 p').set 4 q'
  exact this
theorem below_set5 {B : Nat} {a w : World} (h : Below B a w) {g : Nat} (hg : B ≤ g) (x y z p q : Value) : Below B a (((((w.setCell ⟨g, 0, none⟩ x).setCell ⟨g, 1, none⟩ y).setCell ⟨g, 2, none⟩ z).setCell ⟨g, 3, none⟩ p).setCell ⟨g, 4, none⟩ q) :=
  below_set (below_set (below_set (below_set (below_set h hg x) hg y) hg z) hg p) hg q

set_option maxRecDepth 100000 in
theorem none_calls (w : World) : Calls Tryd.prog 33 #[] w fun e w' => e = .returned (.agg #[.bool MBox.noneB.no, .int .i64 MBox.noneB.lx, .int .i64 MBox.noneB.ly, .int .i64 MBox.noneB.hx, .int .i64 MBox.noneB.hy]) ∧ Bel w w' := by
  go_enter Tryd.func33, Tryd.ntmps33
  go_wp2
  refine bodyPost_ret (v := .agg #[.bool MBox.noneB.no, .int .i64 MBox.noneB.lx, .int .i64 MBox.noneB.ly, .int .i64 MBox.noneB.hx, .int .i64 MBox.noneB.hy]) ?_ rfl ⟨rfl, by repeat (first | exact Below.refl _ _ | refine Below.drew ?_ | refine below_set (g := w.heap.size) ?_ (Nat.le_refl _) _ | refine Below.alloc ?_ (by simp <;> omega) _)⟩
  simp [results, Tryd.results33, go_sem, MBox.noneB]
theorem kb1 {wr w w' : World} {g : Nat} {b : Bx} (hb : Bel w w') (hh : w.cell? ⟨g, 0, none⟩ = some (.bool b.no) ∧ w.cell? ⟨g, 1, none⟩ = some (.int .i64 b.lx) ∧ w.cell? ⟨g, 2, none⟩ = some (.int .i64 b.ly) ∧ w.cell? ⟨g, 3, none⟩ = some (.int .i64 b.hx) ∧ w.cell? ⟨g, 4, none⟩ = some (.int .i64 b.hy) ∧ Bel wr w) : w'.cell? ⟨g, 0, none⟩ = some (.bool b.no) ∧ w'.cell? ⟨g, 1, none⟩ = some (.int .i64 b.lx) ∧ w'.cell? ⟨g, 2, none⟩ = some (.int .i64 b.ly) ∧ w'.cell? ⟨g, 3, none⟩ = some (.int .i64 b.hx) ∧ w'.cell? ⟨g, 4, none⟩ = some (.int .i64 b.hy) ∧ Bel wr w' := by
  obtain ⟨h0, h1, h2, h3, h4, hz⟩ := hh
  exact ⟨kc hb h0, kc hb h1, kc hb h2, kc hb h3, kc hb h4, bthen hz hb⟩
theorem kb2 {wr w w' : World} {g f : Nat} {b a : Bx} (hb : Bel w w') (hh : w.cell? ⟨g, 0, none⟩ = some (.bool b.no) ∧ w.cell? ⟨g, 1, none⟩ = some (.int .i64 b.lx) ∧ w.cell? ⟨g, 2, none⟩ = some (.int .i64 b.ly) ∧ w.cell? ⟨g, 3, none⟩ = some (.int .i64 b.hx) ∧ w.cell? ⟨g, 4, none⟩ = some (.int .i64 b.hy) ∧ w.cell? ⟨f, 0, none⟩ = some (.bool a.no) ∧ w.cell? ⟨f, 1, none⟩ = some (.int .i64 a.lx) ∧ w.cell? ⟨f, 2, none⟩ = some (.int .i64 a.ly) ∧ w.cell? ⟨f, 3, none⟩ = some (.int .i64 a.hx) ∧ w.cell? ⟨f, 4, none⟩ = some (.int .i64 a.hy) ∧ Bel wr w) : w'.cell? ⟨g, 0, none⟩ = some (.bool b.no) ∧ w'.cell? ⟨g, 1, none⟩ = some (.int .i64 b.lx) ∧ w'.cell? ⟨g, 2, none⟩ = some (.int .i64 b.ly) ∧ w'.cell? ⟨g, 3, none⟩ = some (.int .i64 b.hx) ∧ w'.cell? ⟨g, 4, none⟩ = some (.int .i64 b.hy) ∧ w'.cell? ⟨f, 0, none⟩ = some (.bool a.no) ∧ w'.cell? ⟨f, 1, none⟩ = some (.int .i64 a.lx) ∧ w'.cell? ⟨f, 2, none⟩ = some (.int .i64 a.ly) ∧ w'.cell? ⟨f, 3, none⟩ = some (.int .i64 a.hx) ∧ w'.cell? ⟨f, 4, none⟩ = some (.int .i64 a.hy) ∧ Bel wr w' := by
  obtain ⟨h0, h1, h2, h3, h4, i0, i1, i2, i3, i4, hz⟩ := hh
  exact ⟨kc hb h0, kc hb h1, kc hb h2, kc hb h3, kc hb h4, kc hb i0, kc hb i1, kc hb i2, kc hb i3, kc hb i4, bthen hz hb⟩
set_option maxHeartbeats 1000000 in
set_option maxRecDepth 100000 in
theorem good_calls (b : Bx) (w : World) : Calls Tryd.prog 48 #[.agg #[.bool b.no, .int .i64 b.lx, .int .i64 b.ly, .int .i64 b.hx, .int .i64 b.hy]] w fun e w' => e = .returned (.bool (MBox.good b)) ∧ Bel w w' := by
  have HN := Lib.hid none_calls
  have A := Blk.new w #[.bool b.no, .int .i64 b.lx, .int .i64 b.ly, .int .i64 b.hx, .int .i64 b.hy] 52
  have HB : Hid (Below w.heap.size w (w.alloc (.cells #[.bool b.no, .int .i64 b.lx, .int .i64 b.ly, .int .i64 b.hx, .int .i64 b.hy] 52))) := Lib.hid (by repeat (first | exact Below.refl _ _ | refine Below.drew ?_ | refine Below.alloc ?_ (by simp <;> omega) _))
  by_cases hno : b.no = true
  · have q1 := eqB b MBox.noneB
    have hg : MBox.good b = MBox.same b MBox.noneB := by unfold MBox.good; rw [if_pos hno]
    obtain ⟨sm, hsm⟩ : ∃ x, MBox.same b MBox.noneB = x := ⟨_, rfl⟩
    rw [hg]
    rw [hsm] at q1 ⊢
    rw [hno] at q1
    have HNO := Lib.hid hno
    clear hsm hg hno
    go_enter Tryd.func48, Tryd.ntmps48
    go_upto_region 1 with (fail)
    obtain ⟨W, hW⟩ : ∃ W, w.alloc (.cells #[.bool b.no, .int .i64 b.lx, .int .i64 b.ly, .int .i64 b.hx, .int .i64 b.hy] 52) = W := ⟨_, rfl⟩
    rw [hW] at A HB ⊢
    clear hW
    have hno := HNO.out
    obtain ⟨a0, a1, a2, a3, a4⟩ := Blk.cells5 A
    have HBk := Lib.hid (Bel.refl W)
    have hS0 := And.intro a0 (And.intro a1 (And.intro a2 (And.intro a3 (And.intro a4 HBk.out))))
    go_wp2_with fail
    go_region_held3 (fun w' => w'.cell? ⟨w.heap.size, 0, none⟩ = some (.bool b.no) ∧ w'.cell? ⟨w.heap.size, 1, none⟩ = some (.int .i64 b.lx) ∧ w'.cell? ⟨w.heap.size, 2, none⟩ = some (.int .i64 b.ly) ∧ w'.cell? ⟨w.heap.size, 3, none⟩ = some (.int .i64 b.hx) ∧ w'.cell? ⟨w.heap.size, 4, none⟩ = some (.int .i64 b.hy) ∧ Bel W w') (first | with_reducible exact kb1 hb (by assumption) | with_reducible exact kb1 (Bel.drew _) hS0)
      (first
        | (go_at_call 33; refine (HN.out _).mono ?_; rintro e w' ⟨rfl, hb⟩))
    rename_i hheld
    obtain ⟨-, -, -, -, -, hend⟩ := hheld
    have HBf := Lib.hid (bthen HB.out hend)
    clear hend hS0
    go_wp2
    go_ret
    exact ⟨rfl, HBf.out⟩
  · have hg : MBox.good b = (decide (b.lx ≤ b.hx) && decide (b.ly ≤ b.hy)) := by unfold MBox.good; rw [if_neg hno]
    have hno' : b.no = false := by simpa using hno
    rw [hg]
    clear hg
    cases h1 : decide (b.lx ≤ b.hx)
    all_goals
      have HNO := Lib.hid hno'
      clear hno hno'
      go_enter Tryd.func48, Tryd.ntmps48
      go_upto_region 1 with (fail)
      obtain ⟨W, hW⟩ : ∃ W, w.alloc (.cells #[.bool b.no, .int .i64 b.lx, .int .i64 b.ly, .int .i64 b.hx, .int .i64 b.hy] 52) = W := ⟨_, rfl⟩
      rw [hW] at A HB ⊢
      clear hW
      have hno := HNO.out
      obtain ⟨a0, a1, a2, a3, a4⟩ := Blk.cells5 A
      go_wp2
      go_ret
      exact ⟨by simp, HB.out⟩

set_option maxHeartbeats 1000000 in
set_option maxRecDepth 100000 in
theorem has_calls (b : Bx) (w : World) : Calls Tryd.prog 74 #[.agg #[.bool b.no, .int .i64 b.lx, .int .i64 b.ly, .int .i64 b.hx, .int .i64 b.hy]] w fun e w' => e = .returned (.bool (MBox.has b)) ∧ Bel w w' := by
  obtain ⟨no, lx, ly, hx, hy⟩ := b
  have HG := fun w => good_calls ⟨no, lx, ly, hx, hy⟩ w
  rw [← MBox.has_good]
  dsimp only at HG ⊢
  generalize MBox.good ⟨no, lx, ly, hx, hy⟩ = gd at HG ⊢
  have HG := Lib.hid HG
  cases no
  · have A := Blk.new w #[.bool false, .int .i64 lx, .int .i64 ly, .int .i64 hx, .int .i64 hy] 52
    have HB : Hid (Below w.heap.size w (w.alloc (.cells #[.bool false, .int .i64 lx, .int .i64 ly, .int .i64 hx, .int .i64 hy] 52))) := Lib.hid (by repeat (first | exact Below.refl _ _ | refine Below.drew ?_ | refine Below.alloc ?_ (by simp <;> omega) _))
    go_enter Tryd.func74, Tryd.ntmps74
    go_upto_region 1 with (fail)
    obtain ⟨W, hW⟩ : ∃ W, (w.alloc (.cells #[.bool false, .int .i64 lx, .int .i64 ly, .int .i64 hx, .int .i64 hy] 52)) = W := ⟨_, rfl⟩
    rw [hW] at A HB ⊢
    clear hW
    obtain ⟨a0, a1, a2, a3, a4⟩ := Blk.cells5 A
    go_wp2_with (go_at_call 48; refine (HG.out _).mono ?_; rintro e w' ⟨rfl, hb⟩; clear a0 a1 a2 a3 a4; have A := Blk.bel A hb; have HB := Lib.hid (bthen HB.out hb); clear hb; obtain ⟨a0, a1, a2, a3, a4⟩ := Blk.cells5 A)
    go_ret
    exact ⟨by simp, HB.out⟩
  · have A := Blk.new w #[.bool true, .int .i64 lx, .int .i64 ly, .int .i64 hx, .int .i64 hy] 52
    have HB : Hid (Below w.heap.size w (w.alloc (.cells #[.bool true, .int .i64 lx, .int .i64 ly, .int .i64 hx, .int .i64 hy] 52))) := Lib.hid (by repeat (first | exact Below.refl _ _ | refine Below.drew ?_ | refine Below.alloc ?_ (by simp <;> omega) _))
    go_enter Tryd.func74, Tryd.ntmps74
    go_upto_region 1 with (fail)
    obtain ⟨W, hW⟩ : ∃ W, (w.alloc (.cells #[.bool true, .int .i64 lx, .int .i64 ly, .int .i64 hx, .int .i64 hy] 52)) = W := ⟨_, rfl⟩
    rw [hW] at A HB ⊢
    clear hW
    obtain ⟨a0, a1, a2, a3, a4⟩ := Blk.cells5 A
    go_wp2_with (go_at_call 48; refine (HG.out _).mono ?_; rintro e w' ⟨rfl, hb⟩; clear a0 a1 a2 a3 a4; have A := Blk.bel A hb; have HB := Lib.hid (bthen HB.out hb); clear hb; obtain ⟨a0, a1, a2, a3, a4⟩ := Blk.cells5 A)
    go_ret
    exact ⟨by simp, HB.out⟩
set_option maxHeartbeats 1000000 in
set_option maxRecDepth 100000 in
theorem refGood_calls (b : Bx) (w : World) : Calls Tryd.prog 49 #[.agg #[.bool b.no, .int .i64 b.lx, .int .i64 b.ly, .int .i64 b.hx, .int .i64 b.hy]] w fun e w' => e = .returned (.bool (MBox.good b)) ∧ Bel w w' := by
  by_cases hno : b.no = true
  · have q1 := eqB b MBox.noneB
    have hg : MBox.good b = MBox.same b MBox.noneB := by unfold MBox.good; rw [if_pos hno]
    obtain ⟨sm, hsm⟩ : ∃ x, MBox.same b MBox.noneB = x := ⟨_, rfl⟩
    rw [hg]
    rw [hsm] at q1 ⊢
    rw [hno] at q1
    have HNO := Lib.hid hno
    clear hsm hg hno
    have A := Blk.new w #[.bool b.no, .int .i64 b.lx, .int .i64 b.ly, .int .i64 b.hx, .int .i64 b.hy] 52
    have HB : Hid (Below w.heap.size w (w.alloc (.cells #[.bool b.no, .int .i64 b.lx, .int .i64 b.ly, .int .i64 b.hx, .int .i64 b.hy] 52))) := Lib.hid (by repeat (first | exact Below.refl _ _ | refine Below.drew ?_ | refine Below.alloc ?_ (by simp <;> omega) _))
    go_enter Tryd.func49, Tryd.ntmps49
    go_upto_region 1 with (fail)
    obtain ⟨W, hW⟩ : ∃ W, (w.alloc (.cells #[.bool b.no, .int .i64 b.lx, .int .i64 b.ly, .int .i64 b.hx, .int .i64 b.hy] 52)) = W := ⟨_, rfl⟩
    rw [hW] at A HB ⊢
    clear hW
    obtain ⟨a0, a1, a2, a3, a4⟩ := Blk.cells5 A
    have hno := HNO.out
    have q2 : ∀ w : World, (binOp .eql 52 (.agg #[.bool true, .int .i64 b.lx, .int .i64 b.ly, .int .i64 b.hx, .int .i64 b.hy]) (.agg #[.bool true, .int .i64 0, .int .i64 0, .int .i64 0, .int .i64 0])).run Tryd.prog w = .ok (.bool sm) w := q1
    clear q1
    go_wp2
    go_ret
    exact ⟨by simp, HB.out⟩
  · have hg : MBox.good b = (decide (b.lx ≤ b.hx) && decide (b.ly ≤ b.hy)) := by unfold MBox.good; rw [if_neg hno]
    have hno' : b.no = false := by simpa using hno
    rw [hg]
    clear hg
    cases h1 : decide (b.lx ≤ b.hx)
    all_goals
      have HNO := Lib.hid hno'
      clear hno hno'
      have A := Blk.new w #[.bool b.no, .int .i64 b.lx, .int .i64 b.ly, .int .i64 b.hx, .int .i64 b.hy] 52
      have HB : Hid (Below w.heap.size w (w.alloc (.cells #[.bool b.no, .int .i64 b.lx, .int .i64 b.ly, .int .i64 b.hx, .int .i64 b.hy] 52))) := Lib.hid (by repeat (first | exact Below.refl _ _ | refine Below.drew ?_ | refine Below.alloc ?_ (by simp <;> omega) _))
      go_enter Tryd.func49, Tryd.ntmps49
      go_upto_region 1 with (fail)
      obtain ⟨W, hW⟩ : ∃ W, (w.alloc (.cells #[.bool b.no, .int .i64 b.lx, .int .i64 b.ly, .int .i64 b.hx, .int .i64 b.hy] 52)) = W := ⟨_, rfl⟩
      rw [hW] at A HB ⊢
      clear hW
      obtain ⟨a0, a1, a2, a3, a4⟩ := Blk.cells5 A
      have hno := HNO.out
      go_wp2
      go_ret
      exact ⟨by simp, HB.out⟩
set_option maxHeartbeats 1000000 in
set_option maxRecDepth 100000 in
theorem refHas_calls (b : Bx) (w : World) : Calls Tryd.prog 80 #[.agg #[.bool b.no, .int .i64 b.lx, .int .i64 b.ly, .int .i64 b.hx, .int .i64 b.hy]] w fun e w' => e = .returned (.bool (MBox.has b)) ∧ Bel w w' := by
  have HG := Lib.hid refGood_calls
  rw [← MBox.has_good']
  cases hgd : MBox.good b
  all_goals
    have A := Blk.new w #[.bool b.no, .int .i64 b.lx, .int .i64 b.ly, .int .i64 b.hx, .int .i64 b.hy] 52
    have HB : Hid (Below w.heap.size w (w.alloc (.cells #[.bool b.no, .int .i64 b.lx, .int .i64 b.ly, .int .i64 b.hx, .int .i64 b.hy] 52))) := Lib.hid (by repeat (first | exact Below.refl _ _ | refine Below.drew ?_ | refine Below.alloc ?_ (by simp <;> omega) _))
    go_enter Tryd.func80, Tryd.ntmps80
    go_upto_region 1 with (fail)
    obtain ⟨W, hW⟩ : ∃ W, (w.alloc (.cells #[.bool b.no, .int .i64 b.lx, .int .i64 b.ly, .int .i64 b.hx, .int .i64 b.hy] 52)) = W := ⟨_, rfl⟩
    rw [hW] at A HB ⊢
    clear hW
    obtain ⟨a0, a1, a2, a3, a4⟩ := Blk.cells5 A
    go_wp2_with (go_at_call 49; refine (HG.out _ _).mono ?_; rintro e w' ⟨rfl, hb⟩; clear a0 a1 a2 a3 a4; have A := Blk.bel A hb; have HB := Lib.hid (bthen HB.out hb); clear hb; obtain ⟨a0, a1, a2, a3, a4⟩ := Blk.cells5 A)
    go_ret
    exact ⟨by simp, HB.out⟩
set_option maxHeartbeats 1000000 in
set_option maxRecDepth 100000 in
theorem least_calls (a b : Int) (w : World) : Calls Tryd.prog 81 #[.int .i64 a, .int .i64 b] w fun e w' => e = .returned (.int .i64 (MBox.mn a b)) ∧ w = w' := by
  have hm : MBox.mn a b = if a < b then a else b := by have := MBox.mn_iff a b; split <;> omega
  rw [hm]
  clear hm
  by_cases h : a < b
  all_goals
    go_enter Tryd.func81, Tryd.ntmps81
    go_wp2
    go_ret
    exact ⟨by simp [h], rfl⟩
set_option maxHeartbeats 1000000 in
set_option maxRecDepth 100000 in
theorem most_calls (a b : Int) (w : World) : Calls Tryd.prog 82 #[.int .i64 a, .int .i64 b] w fun e w' => e = .returned (.int .i64 (MBox.mx a b)) ∧ w = w' := by
  have hm : MBox.mx a b = if b < a then a else b := by have := MBox.mx_iff a b; split <;> omega
  rw [hm]
  clear hm
  by_cases h : b < a
  all_goals
    go_enter Tryd.func82, Tryd.ntmps82
    go_wp2
    go_ret
    exact ⟨by simp [h], rfl⟩

end Go.Proofs.YtakkifedcbhgfaaDoor.K
