/- Texts laid as one: Boxes: equality, none, good, has. · Boxes: around two. -/
import Derived.Test.YtljcingmjemohaaKB
import Derived.Handy
import Derived.ChangeKeysEq
import Derived.Shelf.Spec.BitsCarry
import Derived.Laws.Externs
import Derived.Laws.BitsAllLaws
import Derived.Laws.Bits64
import Derived.Laws.Bits64b
import Derived.Laws.BitsLemmas
import Derived.IntWalk
import Derived.Shelf.Bits.Mul64
import Derived.Shelf.Strconv.Itoa0
import Derived.Deep.RegionHeld3
import Derived.Deep.CutBlock
import Derived.Deep.DeepCutAuto
import Derived.Deep.Draws
import Derived.Deep.LoopGhost
import Derived.OrdersHeld
import Derived.WideLaws
import Derived.Laws.IdiomCopy
import Derived.Laws.Slices
import Derived.Test.YtljcingmjemohaaKM2
namespace Go.Proofs.Ytljcingmjemohaa.K
open Go Go.RowKit Go.Proofs.YtljcingmjemohaaW.PrintWords Go.Proofs.YtljcingmjemohaaW.PrintLast Go.Proofs.YtljcingmjemohaaW.PrintMore
set_option linter.unusedVariables false
set_option linter.unusedSimpArgs false
open Go.Proofs.Ytljcingmjemohaa.MWide (W64 U192 addV subV addOk subOk cmpV)
open Go.Proofs.Ytljcingmjemohaa.MBox (Bx)
set_option maxRecDepth 100000 in
theorem eqP_in (d : Nat) (x y x' y' : Int) (w : World) : (Op.equalIn (d + 2) 36 (.agg #[.int .i64 x, .int .i64 y]) (.agg #[.int .i64 x', .int .i64 y'])).run Try.prog w = .ok (x == x' && y == y') w := by
  rw [run_equalIn_struct w (d + 1) 36 _ _ (by kernel_rfl) (by kernel_rfl)]
  simp only [Program.fieldsOf, Try.underlying36]
  cases hx : (x == x') <;> cases hy : (y == y') <;> simp [Op.eqFields, go_sem, Try.underlying3, hx, hy]
set_option maxRecDepth 100000 in
theorem eqB_in (d : Nat) (a b : Bx) (w : World) : (Op.equalIn (d + 3) 38 (.agg #[.bool a.no, .int .i64 a.lx, .int .i64 a.ly, .int .i64 a.hx, .int .i64 a.hy]) (.agg #[.bool b.no, .int .i64 b.lx, .int .i64 b.ly, .int .i64 b.hx, .int .i64 b.hy])).run Try.prog w = .ok (MBox.same a b) w := by
  rw [run_equalIn_struct w (d + 2) 38 _ _ (by kernel_rfl) (by kernel_rfl)]
  simp only [Program.fieldsOf, Try.underlying38]
  by_cases h0 : a.no = b.no <;> by_cases h1 : a.lx = b.lx <;> by_cases h2 : a.ly = b.ly <;> by_cases h3 : a.hx = b.hx <;> by_cases h4 : a.hy = b.hy <;> simp [Op.eqFields, go_sem, Try.underlying4, Try.underlying3, Try.underlying36, MBox.same, h0, h1, h2, h3, h4]
set_option maxRecDepth 100000 in
theorem eqB (a b : Bx) (w : World) : (binOp .eql 38 (.agg #[.bool a.no, .int .i64 a.lx, .int .i64 a.ly, .int .i64 a.hx, .int .i64 a.hy]) (.agg #[.bool b.no, .int .i64 b.lx, .int .i64 b.ly, .int .i64 b.hx, .int .i64 b.hy])).run Try.prog w = .ok (.bool (MBox.same a b)) w := by
  unfold binOp
  simp only [Sem.run_bind, Op.equal, Op.maxDepth, eqB_in 9997 a b, Result.andThen_ok, Sem.run_pure]


theorem Blk.cells5 {W : World} {g t : Nat} {x y z p q : Value} (h : Blk W g #[x, y, z, p, q] t) : W.cell? ⟨g, 0, none⟩ = some x ∧ W.cell? ⟨g, 1, none⟩ = some y ∧ W.cell? ⟨g, 2, none⟩ = some z ∧ W.cell? ⟨g, 3, none⟩ = some p ∧ W.cell? ⟨g, 4, none⟩ = some q :=
  ⟨h.cell 0 rfl, h.cell 1 rfl, h.cell 2 rfl, h.cell 3 rfl, h.cell 4 rfl⟩
theorem Blk.set5 {W : World} {g t : Nat} {x y z p q x' y' z' p' q' : Value} (h : Blk W g #[x, y, z, p, q] t) : Blk (((((W.setCell ⟨g, 0, none⟩ x').setCell ⟨g, 1, none⟩ y').setCell ⟨g, 2, none⟩ z').setCell ⟨g, 3, none⟩ p').setCell ⟨g, 4, none⟩ q') g #[x', y', z', p', q'] t := by
  have := ((((h.set 0 x').set 1 y').set 2 z').set 3 p').set 4 q'
  exact this
theorem below_set5 {B : Nat} {a w : World} (h : Below B a w) {g : Nat} (hg : B ≤ g) (x y z p q : Value) : Below B a (((((w.setCell ⟨g, 0, none⟩ x).setCell ⟨g, 1, none⟩ y).setCell ⟨g, 2, none⟩ z).setCell ⟨g, 3, none⟩ p).setCell ⟨g, 4, none⟩ q) :=
  below_set (below_set (below_set (below_set (below_set h hg x) hg y) hg z) hg p) hg q

set_option maxRecDepth 100000 in
theorem none_calls (w : World) : Calls Try.prog 48 #[] w fun e w' => e = .returned (.agg #[.bool MBox.noneB.no, .int .i64 MBox.noneB.lx, .int .i64 MBox.noneB.ly, .int .i64 MBox.noneB.hx, .int .i64 MBox.noneB.hy]) ∧ Bel w w' := by
  go_enter Try.func48, Try.ntmps48
  go_wp2
  refine bodyPost_ret (v := .agg #[.bool MBox.noneB.no, .int .i64 MBox.noneB.lx, .int .i64 MBox.noneB.ly, .int .i64 MBox.noneB.hx, .int .i64 MBox.noneB.hy]) ?_ rfl ⟨rfl, by repeat (first | exact Below.refl _ _ | refine Below.drew ?_ | refine below_set (g := w.heap.size) ?_ (Nat.le_refl _) _ | refine Below.alloc ?_ (by simp <;> omega) _)⟩
  simp [results, Try.results48, go_sem, MBox.noneB]
theorem kb1 {wr w w' : World} {g : Nat} {b : Bx} (hb : Bel w w') (hh : w.cell? ⟨g, 0, none⟩ = some (.bool b.no) ∧ w.cell? ⟨g, 1, none⟩ = some (.int .i64 b.lx) ∧ w.cell? ⟨g, 2, none⟩ = some (.int .i64 b.ly) ∧ w.cell? ⟨g, 3, none⟩ = some (.int .i64 b.hx) ∧ w.cell? ⟨g, 4, none⟩ = some (.int .i64 b.hy) ∧ Bel wr w) : w'.cell? ⟨g, 0, none⟩ = some (.bool b.no) ∧ w'.cell? ⟨g, 1, none⟩ = some (.int .i64 b.lx) ∧ w'.cell? ⟨g, 2, none⟩ = some (.int .i64 b.ly) ∧ w'.cell? ⟨g, 3, none⟩ = some (.int .i64 b.hx) ∧ w'.cell? ⟨g, 4, none⟩ = some (.int .i64 b.hy) ∧ Bel wr w' := by
  obtain ⟨h0, h1, h2, h3, h4, hz⟩ := hh
  exact ⟨kc hb h0, kc hb h1, kc hb h2, kc hb h3, kc hb h4, bthen hz hb⟩
theorem kb2 {wr w w' : World} {g f : Nat} {b a : Bx} (hb : Bel w w') (hh : w.cell? ⟨g, 0, none⟩ = some (.bool b.no) ∧ w.cell? ⟨g, 1, none⟩ = some (.int .i64 b.lx) ∧ w.cell? ⟨g, 2, none⟩ = some (.int .i64 b.ly) ∧ w.cell? ⟨g, 3, none⟩ = some (.int .i64 b.hx) ∧ w.cell? ⟨g, 4, none⟩ = some (.int .i64 b.hy) ∧ w.cell? ⟨f, 0, none⟩ = some (.bool a.no) ∧ w.cell? ⟨f, 1, none⟩ = some (.int .i64 a.lx) ∧ w.cell? ⟨f, 2, none⟩ = some (.int .i64 a.ly) ∧ w.cell? ⟨f, 3, none⟩ = some (.int .i64 a.hx) ∧ w.cell? ⟨f, 4, none⟩ = some (.int .i64 a.hy) ∧ Bel wr w) : w'.cell? ⟨g, 0, none⟩ = some (.bool b.no) ∧ w'.cell? ⟨g, 1, none⟩ = some (.int .i64 b.lx) ∧ w'.cell? ⟨g, 2, none⟩ = some (.int .i64 b.ly) ∧ w'.cell? ⟨g, 3, none⟩ = some (.int .i64 b.hx) ∧ w'.cell? ⟨g, 4, none⟩ = some (.int .i64 b.hy) ∧ w'.cell? ⟨f, 0, none⟩ = some (.bool a.no) ∧ w'.cell? ⟨f, 1, none⟩ = some (.int .i64 a.lx) ∧ w'.cell? ⟨f, 2, none⟩ = some (.int .i64 a.ly) ∧ w'.cell? ⟨f, 3, none⟩ = some (.int .i64 a.hx) ∧ w'.cell? ⟨f, 4, none⟩ = some (.int .i64 a.hy) ∧ Bel wr w' := by
  obtain ⟨h0, h1, h2, h3, h4, i0, i1, i2, i3, i4, hz⟩ := hh
  exact ⟨kc hb h0, kc hb h1, kc hb h2, kc hb h3, kc hb h4, kc hb i0, kc hb i1, kc hb i2, kc hb i3, kc hb i4, bthen hz hb⟩
set_option maxHeartbeats 1000000 in
set_option maxRecDepth 100000 in
theorem good_calls (b : Bx) (w : World) : Calls Try.prog 88 #[.agg #[.bool b.no, .int .i64 b.lx, .int .i64 b.ly, .int .i64 b.hx, .int .i64 b.hy]] w fun e w' => e = .returned (.bool (MBox.good b)) ∧ Bel w w' := by
  have HN := Lib.hid none_calls
  have A := Blk.new w #[.bool b.no, .int .i64 b.lx, .int .i64 b.ly, .int .i64 b.hx, .int .i64 b.hy] 38
  have HB : Hid (Below w.heap.size w (w.alloc (.cells #[.bool b.no, .int .i64 b.lx, .int .i64 b.ly, .int .i64 b.hx, .int .i64 b.hy] 38))) := Lib.hid (by repeat (first | exact Below.refl _ _ | refine Below.drew ?_ | refine Below.alloc ?_ (by simp <;> omega) _))
  by_cases hno : b.no = true
  · have q1 := eqB b MBox.noneB
    have hg : MBox.good b = MBox.same b MBox.noneB := by unfold MBox.good; rw [if_pos hno]
    obtain ⟨sm, hsm⟩ : ∃ x, MBox.same b MBox.noneB = x := ⟨_, rfl⟩
    rw [hg]
    rw [hsm] at q1 ⊢
    rw [hno] at q1
    have HNO := Lib.hid hno
    clear hsm hg hno
    go_enter Try.func88, Try.ntmps88
    go_upto_region 1 with (fail)
    obtain ⟨W, hW⟩ : ∃ W, w.alloc (.cells #[.bool b.no, .int .i64 b.lx, .int .i64 b.ly, .int .i64 b.hx, .int .i64 b.hy] 38) = W := ⟨_, rfl⟩
    rw [hW] at A HB ⊢
    clear hW
    have hno := HNO.out
    obtain ⟨a0, a1, a2, a3, a4⟩ := Blk.cells5 A
    have HBk := Lib.hid (Bel.refl W)
    have hS0 := And.intro a0 (And.intro a1 (And.intro a2 (And.intro a3 (And.intro a4 HBk.out))))
    go_wp2_with fail
    go_region_held3 (fun w' => w'.cell? ⟨w.heap.size, 0, none⟩ = some (.bool b.no) ∧ w'.cell? ⟨w.heap.size, 1, none⟩ = some (.int .i64 b.lx) ∧ w'.cell? ⟨w.heap.size, 2, none⟩ = some (.int .i64 b.ly) ∧ w'.cell? ⟨w.heap.size, 3, none⟩ = some (.int .i64 b.hx) ∧ w'.cell? ⟨w.heap.size, 4, none⟩ = some (.int .i64 b.hy) ∧ Bel W w') (first | with_reducible exact kb1 hb (by assumption) | with_reducible exact kb1 (Bel.drew _) hS0)
      (first
        | (go_at_call 48; refine (HN.out _).mono ?_; rintro e w' ⟨rfl, hb⟩))
    rename_i hheld
    obtain ⟨-, -, -, -, -, hend⟩ := hheld
    have HBf := Lib.hid (bthen HB.out hend)
    clear hend hS0
    go_wp2
    go_ret
    exact ⟨rfl, HBf.out⟩
  · have hg : MBox.good b = (decide (b.lx ≤ b.hx) && decide (b.ly ≤ b.hy)) := by unfold MBox.good; rw [if_neg hno]
    have hno' : b.no = false := by simpa using hno
    rw [hg]
    clear hg
    cases h1 : decide (b.lx ≤ b.hx)
    all_goals
      have HNO := Lib.hid hno'
      clear hno hno'
      go_enter Try.func88, Try.ntmps88
      go_upto_region 1 with (fail)
      obtain ⟨W, hW⟩ : ∃ W, w.alloc (.cells #[.bool b.no, .int .i64 b.lx, .int .i64 b.ly, .int .i64 b.hx, .int .i64 b.hy] 38) = W := ⟨_, rfl⟩
      rw [hW] at A HB ⊢
      clear hW
      have hno := HNO.out
      obtain ⟨a0, a1, a2, a3, a4⟩ := Blk.cells5 A
      go_wp2
      go_ret
      exact ⟨by simp, HB.out⟩

set_option maxHeartbeats 1000000 in
set_option maxRecDepth 100000 in
theorem has_calls (b : Bx) (w : World) : Calls Try.prog 91 #[.agg #[.bool b.no, .int .i64 b.lx, .int .i64 b.ly, .int .i64 b.hx, .int .i64 b.hy]] w fun e w' => e = .returned (.bool (MBox.has b)) ∧ Bel w w' := by
  obtain ⟨no, lx, ly, hx, hy⟩ := b
  have HG := fun w => good_calls ⟨no, lx, ly, hx, hy⟩ w
  rw [← MBox.has_good]
  dsimp only at HG ⊢
  generalize MBox.good ⟨no, lx, ly, hx, hy⟩ = gd at HG ⊢
  have HG := Lib.hid HG
  cases no
  · have A := Blk.new w #[.bool false, .int .i64 lx, .int .i64 ly, .int .i64 hx, .int .i64 hy] 38
    have HB : Hid (Below w.heap.size w (w.alloc (.cells #[.bool false, .int .i64 lx, .int .i64 ly, .int .i64 hx, .int .i64 hy] 38))) := Lib.hid (by repeat (first | exact Below.refl _ _ | refine Below.drew ?_ | refine Below.alloc ?_ (by simp <;> omega) _))
    go_enter Try.func91, Try.ntmps91
    go_upto_region 1 with (fail)
    obtain ⟨W, hW⟩ : ∃ W, (w.alloc (.cells #[.bool false, .int .i64 lx, .int .i64 ly, .int .i64 hx, .int .i64 hy] 38)) = W := ⟨_, rfl⟩
    rw [hW] at A HB ⊢
    clear hW
    obtain ⟨a0, a1, a2, a3, a4⟩ := Blk.cells5 A
    go_wp2_with (go_at_call 88; refine (HG.out _).mono ?_; rintro e w' ⟨rfl, hb⟩; clear a0 a1 a2 a3 a4; have A := Blk.bel A hb; have HB := Lib.hid (bthen HB.out hb); clear hb; obtain ⟨a0, a1, a2, a3, a4⟩ := Blk.cells5 A)
    go_ret
    exact ⟨by simp, HB.out⟩
  · have A := Blk.new w #[.bool true, .int .i64 lx, .int .i64 ly, .int .i64 hx, .int .i64 hy] 38
    have HB : Hid (Below w.heap.size w (w.alloc (.cells #[.bool true, .int .i64 lx, .int .i64 ly, .int .i64 hx, .int .i64 hy] 38))) := Lib.hid (by repeat (first | exact Below.refl _ _ | refine Below.drew ?_ | refine Below.alloc ?_ (by simp <;> omega) _))
    go_enter Try.func91, Try.ntmps91
    go_upto_region 1 with (fail)
    obtain ⟨W, hW⟩ : ∃ W, (w.alloc (.cells #[.bool true, .int .i64 lx, .int .i64 ly, .int .i64 hx, .int .i64 hy] 38)) = W := ⟨_, rfl⟩
    rw [hW] at A HB ⊢
    clear hW
    obtain ⟨a0, a1, a2, a3, a4⟩ := Blk.cells5 A
    go_wp2_with (go_at_call 88; refine (HG.out _).mono ?_; rintro e w' ⟨rfl, hb⟩; clear a0 a1 a2 a3 a4; have A := Blk.bel A hb; have HB := Lib.hid (bthen HB.out hb); clear hb; obtain ⟨a0, a1, a2, a3, a4⟩ := Blk.cells5 A)
    go_ret
    exact ⟨by simp, HB.out⟩
set_option maxHeartbeats 1000000 in
set_option maxRecDepth 100000 in
theorem refGood_calls (b : Bx) (w : World) : Calls Try.prog 61 #[.agg #[.bool b.no, .int .i64 b.lx, .int .i64 b.ly, .int .i64 b.hx, .int .i64 b.hy]] w fun e w' => e = .returned (.bool (MBox.good b)) ∧ Bel w w' := by
  by_cases hno : b.no = true
  · have q1 := eqB b MBox.noneB
    have hg : MBox.good b = MBox.same b MBox.noneB := by unfold MBox.good; rw [if_pos hno]
    obtain ⟨sm, hsm⟩ : ∃ x, MBox.same b MBox.noneB = x := ⟨_, rfl⟩
    rw [hg]
    rw [hsm] at q1 ⊢
    rw [hno] at q1
    have HNO := Lib.hid hno
    clear hsm hg hno
    have A := Blk.new w #[.bool b.no, .int .i64 b.lx, .int .i64 b.ly, .int .i64 b.hx, .int .i64 b.hy] 38
    have HB : Hid (Below w.heap.size w (w.alloc (.cells #[.bool b.no, .int .i64 b.lx, .int .i64 b.ly, .int .i64 b.hx, .int .i64 b.hy] 38))) := Lib.hid (by repeat (first | exact Below.refl _ _ | refine Below.drew ?_ | refine Below.alloc ?_ (by simp <;> omega) _))
    go_enter Try.func61, Try.ntmps61
    go_upto_region 1 with (fail)
    obtain ⟨W, hW⟩ : ∃ W, (w.alloc (.cells #[.bool b.no, .int .i64 b.lx, .int .i64 b.ly, .int .i64 b.hx, .int .i64 b.hy] 38)) = W := ⟨_, rfl⟩
    rw [hW] at A HB ⊢
    clear hW
    obtain ⟨a0, a1, a2, a3, a4⟩ := Blk.cells5 A
    have hno := HNO.out
    have q2 : ∀ w : World, (binOp .eql 38 (.agg #[.bool true, .int .i64 b.lx, .int .i64 b.ly, .int .i64 b.hx, .int .i64 b.hy]) (.agg #[.bool true, .int .i64 0, .int .i64 0, .int .i64 0, .int .i64 0])).run Try.prog w = .ok (.bool sm) w := q1
    clear q1
    go_wp2
    go_ret
    exact ⟨by simp, HB.out⟩
  · have hg : MBox.good b = (decide (b.lx ≤ b.hx) && decide (b.ly ≤ b.hy)) := by unfold MBox.good; rw [if_neg hno]
    have hno' : b.no = false := by simpa using hno
    rw [hg]
    clear hg
    cases h1 : decide (b.lx ≤ b.hx)
    all_goals
      have HNO := Lib.hid hno'
      clear hno hno'
      have A := Blk.new w #[.bool b.no, .int .i64 b.lx, .int .i64 b.ly, .int .i64 b.hx, .int .i64 b.hy] 38
      have HB : Hid (Below w.heap.size w (w.alloc (.cells #[.bool b.no, .int .i64 b.lx, .int .i64 b.ly, .int .i64 b.hx, .int .i64 b.hy] 38))) := Lib.hid (by repeat (first | exact Below.refl _ _ | refine Below.drew ?_ | refine Below.alloc ?_ (by simp <;> omega) _))
      go_enter Try.func61, Try.ntmps61
      go_upto_region 1 with (fail)
      obtain ⟨W, hW⟩ : ∃ W, (w.alloc (.cells #[.bool b.no, .int .i64 b.lx, .int .i64 b.ly, .int .i64 b.hx, .int .i64 b.hy] 38)) = W := ⟨_, rfl⟩
      rw [hW] at A HB ⊢
      clear hW
      obtain ⟨a0, a1, a2, a3, a4⟩ := Blk.cells5 A
      have hno := HNO.out
      go_wp2
      go_ret
      exact ⟨by simp, HB.out⟩
set_option maxHeartbeats 1000000 in
set_option maxRecDepth 100000 in
theorem refHas_calls (b : Bx) (w : World) : Calls Try.prog 26 #[.agg #[.bool b.no, .int .i64 b.lx, .int .i64 b.ly, .int .i64 b.hx, .int .i64 b.hy]] w fun e w' => e = .returned (.bool (MBox.has b)) ∧ Bel w w' := by
  have HG := Lib.hid refGood_calls
  rw [← MBox.has_good']
  cases hgd : MBox.good b
  all_goals
    have A := Blk.new w #[.bool b.no, .int .i64 b.lx, .int .i64 b.ly, .int .i64 b.hx, .int .i64 b.hy] 38
    have HB : Hid (Below w.heap.size w (w.alloc (.cells #[.bool b.no, .int .i64 b.lx, .int .i64 b.ly, .int .i64 b.hx, .int .i64 b.hy] 38))) := Lib.hid (by repeat (first | exact Below.refl _ _ | refine Below.drew ?_ | refine Below.alloc ?_ (by simp <;> omega) _))
    go_enter Try.func26, Try.ntmps26
    go_upto_region 1 with (fail)
    obtain ⟨W, hW⟩ : ∃ W, (w.alloc (.cells #[.bool b.no, .int .i64 b.lx, .int .i64 b.ly, .int .i64 b.hx, .int .i64 b.hy] 38)) = W := ⟨_, rfl⟩
    rw [hW] at A HB ⊢
    clear hW
    obtain ⟨a0, a1, a2, a3, a4⟩ := Blk.cells5 A
    go_wp2_with (go_at_call 61; refine (HG.out _ _).mono ?_; rintro e w' ⟨rfl, hb⟩; clear a0 a1 a2 a3 a4; have A := Blk.bel A hb; have HB := Lib.hid (bthen HB.out hb); clear hb; obtain ⟨a0, a1, a2, a3, a4⟩ := Blk.cells5 A)
    go_ret
    exact ⟨by simp, HB.out⟩
set_option maxHeartbeats 1000000 in
set_option maxRecDepth 100000 in
theorem least_calls (a b : Int) (w : World) : Calls Try.prog 93 #[.int .i64 a, .int .i64 b] w fun e w' => e = .returned (.int .i64 (MBox.mn a b)) ∧ w = w' := by
  have hm : MBox.mn a b = if a < b then a else b := by have := MBox.mn_iff a b; split <;> omega
  rw [hm]
  clear hm
  by_cases h : a < b
  all_goals
    go_enter Try.func93, Try.ntmps93
    go_wp2
    go_ret
    exact ⟨by simp [h], rfl⟩
set_option maxHeartbeats 1000000 in
set_option maxRecDepth 100000 in
theorem most_calls (a b : Int) (w : World) : Calls Try.prog 94 #[.int .i64 a, .int .i64 b] w fun e w' => e = .returned (.int .i64 (MBox.mx a b)) ∧ w = w' := by
  have hm : MBox.mx a b = if b < a then a else b := by have := MBox.mx_iff a b; split <;> omega
  rw [hm]
  clear hm
  by_cases h : b < a
  all_goals
    go_enter Try.func94, Try.ntmps94
    go_wp2
    go_ret
    exact ⟨by simp [h], rfl⟩

end Go.Proofs.Ytljcingmjemohaa.K
namespace Go.Proofs.Ytljcingmjemohaa.K
open Go Go.RowKit Go.Proofs.YtljcingmjemohaaW.PrintWords Go.Proofs.YtljcingmjemohaaW.PrintLast Go.Proofs.YtljcingmjemohaaW.PrintMore
set_option linter.unusedVariables false
set_option linter.unusedSimpArgs false
open Go.Proofs.Ytljcingmjemohaa.MWide (W64 U192 addV subV addOk subOk cmpV)
open Go.Proofs.Ytljcingmjemohaa.MBox (Bx)
theorem cell_set_neB (W : World) (j k : Nat) (u : Value) (g i : Nat) (h : g ≠ j) : (W.setCell ⟨j, k, none⟩ u).cell? ⟨g, i, none⟩ = W.cell? ⟨g, i, none⟩ := by
  have := Below.heap_setCell W ⟨j, k, none⟩ u g h
  simp only [World.cell?, this]
theorem kbb_set5 {w : World} {g f j : Nat} {b a : Bx} {x y z p q : Value} (hg : g ≠ j) (hf : f ≠ j) (hh : w.cell? ⟨g, 0, none⟩ = some (.bool b.no) ∧ w.cell? ⟨g, 1, none⟩ = some (.int .i64 b.lx) ∧ w.cell? ⟨g, 2, none⟩ = some (.int .i64 b.ly) ∧ w.cell? ⟨g, 3, none⟩ = some (.int .i64 b.hx) ∧ w.cell? ⟨g, 4, none⟩ = some (.int .i64 b.hy) ∧ w.cell? ⟨f, 0, none⟩ = some (.bool a.no) ∧ w.cell? ⟨f, 1, none⟩ = some (.int .i64 a.lx) ∧ w.cell? ⟨f, 2, none⟩ = some (.int .i64 a.ly) ∧ w.cell? ⟨f, 3, none⟩ = some (.int .i64 a.hx) ∧ w.cell? ⟨f, 4, none⟩ = some (.int .i64 a.hy)) :
    let W := ((((w.setCell ⟨j, 0, none⟩ x).setCell ⟨j, 1, none⟩ y).setCell ⟨j, 2, none⟩ z).setCell ⟨j, 3, none⟩ p).setCell ⟨j, 4, none⟩ q
    W.cell? ⟨g, 0, none⟩ = some (.bool b.no) ∧ W.cell? ⟨g, 1, none⟩ = some (.int .i64 b.lx) ∧ W.cell? ⟨g, 2, none⟩ = some (.int .i64 b.ly) ∧ W.cell? ⟨g, 3, none⟩ = some (.int .i64 b.hx) ∧ W.cell? ⟨g, 4, none⟩ = some (.int .i64 b.hy) ∧ W.cell? ⟨f, 0, none⟩ = some (.bool a.no) ∧ W.cell? ⟨f, 1, none⟩ = some (.int .i64 a.lx) ∧ W.cell? ⟨f, 2, none⟩ = some (.int .i64 a.ly) ∧ W.cell? ⟨f, 3, none⟩ = some (.int .i64 a.hx) ∧ W.cell? ⟨f, 4, none⟩ = some (.int .i64 a.hy) := by
  obtain ⟨h0, h1, h2, h3, h4, i0, i1, i2, i3, i4⟩ := hh
  have k : ∀ {g n : Nat} {u : Value}, g ≠ j → w.cell? ⟨g, n, none⟩ = some u → (((((w.setCell ⟨j, 0, none⟩ x).setCell ⟨j, 1, none⟩ y).setCell ⟨j, 2, none⟩ z).setCell ⟨j, 3, none⟩ p).setCell ⟨j, 4, none⟩ q).cell? ⟨g, n, none⟩ = some u := fun hg h => by rw [cell_set_neB _ _ _ _ _ _ hg, cell_set_neB _ _ _ _ _ _ hg, cell_set_neB _ _ _ _ _ _ hg, cell_set_neB _ _ _ _ _ _ hg, cell_set_neB _ _ _ _ _ _ hg]; exact h
  exact ⟨k hg h0, k hg h1, k hg h2, k hg h3, k hg h4, k hf i0, k hf i1, k hf i2, k hf i3, k hf i4⟩
theorem kbb {w w' : World} {g f : Nat} {b a : Bx} (hb : Bel w w') (hh : w.cell? ⟨g, 0, none⟩ = some (.bool b.no) ∧ w.cell? ⟨g, 1, none⟩ = some (.int .i64 b.lx) ∧ w.cell? ⟨g, 2, none⟩ = some (.int .i64 b.ly) ∧ w.cell? ⟨g, 3, none⟩ = some (.int .i64 b.hx) ∧ w.cell? ⟨g, 4, none⟩ = some (.int .i64 b.hy) ∧ w.cell? ⟨f, 0, none⟩ = some (.bool a.no) ∧ w.cell? ⟨f, 1, none⟩ = some (.int .i64 a.lx) ∧ w.cell? ⟨f, 2, none⟩ = some (.int .i64 a.ly) ∧ w.cell? ⟨f, 3, none⟩ = some (.int .i64 a.hx) ∧ w.cell? ⟨f, 4, none⟩ = some (.int .i64 a.hy)) : w'.cell? ⟨g, 0, none⟩ = some (.bool b.no) ∧ w'.cell? ⟨g, 1, none⟩ = some (.int .i64 b.lx) ∧ w'.cell? ⟨g, 2, none⟩ = some (.int .i64 b.ly) ∧ w'.cell? ⟨g, 3, none⟩ = some (.int .i64 b.hx) ∧ w'.cell? ⟨g, 4, none⟩ = some (.int .i64 b.hy) ∧ w'.cell? ⟨f, 0, none⟩ = some (.bool a.no) ∧ w'.cell? ⟨f, 1, none⟩ = some (.int .i64 a.lx) ∧ w'.cell? ⟨f, 2, none⟩ = some (.int .i64 a.ly) ∧ w'.cell? ⟨f, 3, none⟩ = some (.int .i64 a.hx) ∧ w'.cell? ⟨f, 4, none⟩ = some (.int .i64 a.hy) := by
  obtain ⟨h0, h1, h2, h3, h4, i0, i1, i2, i3, i4⟩ := hh
  exact ⟨kc hb h0, kc hb h1, kc hb h2, kc hb h3, kc hb h4, kc hb i0, kc hb i1, kc hb i2, kc hb i3, kc hb i4⟩
theorem mn_minB (a b : Int) : MBox.mn a b = min a b := by have := MBox.mn_iff a b; omega
theorem mx_maxB (a b : Int) : MBox.mx a b = max a b := by have := MBox.mx_iff a b; omega
set_option maxHeartbeats 2000000 in
set_option maxRecDepth 100000 in
theorem union_calls (a b : Bx) (w : World) : Calls Try.prog 49 #[.agg #[.bool a.no, .int .i64 a.lx, .int .i64 a.ly, .int .i64 a.hx, .int .i64 a.hy], .agg #[.bool b.no, .int .i64 b.lx, .int .i64 b.ly, .int .i64 b.hx, .int .i64 b.hy]] w fun e w' => e = .returned (.agg #[.bool (MBox.union a b).no, .int .i64 (MBox.union a b).lx, .int .i64 (MBox.union a b).ly, .int .i64 (MBox.union a b).hx, .int .i64 (MBox.union a b).hy]) ∧ Bel w w' := by
  have HH := Lib.hid has_calls
  have HN := Lib.hid none_calls
  cases ha : MBox.has a <;> cases hb : MBox.has b
  · have hu : (.agg #[.bool (MBox.union a b).no, .int .i64 (MBox.union a b).lx, .int .i64 (MBox.union a b).ly, .int .i64 (MBox.union a b).hx, .int .i64 (MBox.union a b).hy] : Value) = .agg #[.bool MBox.noneB.no, .int .i64 MBox.noneB.lx, .int .i64 MBox.noneB.ly, .int .i64 MBox.noneB.hx, .int .i64 MBox.noneB.hy] := by
      have hu2 : MBox.union a b = MBox.noneB := by unfold MBox.union; rw [ha, hb]; rfl
      rw [hu2]
    rw [hu]
    clear hu
    have A := ((Blk.new w #[.bool a.no, .int .i64 a.lx, .int .i64 a.ly, .int .i64 a.hx, .int .i64 a.hy] 38).alloc (.cells #[.bool b.no, .int .i64 b.lx, .int .i64 b.ly, .int .i64 b.hx, .int .i64 b.hy] 38)).alloc (.cells #[.bool false, .int .i64 0, .int .i64 0, .int .i64 0, .int .i64 0] 38)
    have B := (Blk.new_at (W := (w.alloc (.cells #[.bool a.no, .int .i64 a.lx, .int .i64 a.ly, .int .i64 a.hx, .int .i64 a.hy] 38))) (g := w.heap.size + 1) (by simp) #[.bool b.no, .int .i64 b.lx, .int .i64 b.ly, .int .i64 b.hx, .int .i64 b.hy] 38).alloc (.cells #[.bool false, .int .i64 0, .int .i64 0, .int .i64 0, .int .i64 0] 38)
    have R := Blk.new_at (W := ((w.alloc (.cells #[.bool a.no, .int .i64 a.lx, .int .i64 a.ly, .int .i64 a.hx, .int .i64 a.hy] 38)).alloc (.cells #[.bool b.no, .int .i64 b.lx, .int .i64 b.ly, .int .i64 b.hx, .int .i64 b.hy] 38))) (g := w.heap.size + 1 + 1) (by simp) #[.bool false, .int .i64 0, .int .i64 0, .int .i64 0, .int .i64 0] 38
    have HB : Hid (Below w.heap.size w (((w.alloc (.cells #[.bool a.no, .int .i64 a.lx, .int .i64 a.ly, .int .i64 a.hx, .int .i64 a.hy] 38)).alloc (.cells #[.bool b.no, .int .i64 b.lx, .int .i64 b.ly, .int .i64 b.hx, .int .i64 b.hy] 38)).alloc (.cells #[.bool false, .int .i64 0, .int .i64 0, .int .i64 0, .int .i64 0] 38))) := Lib.hid (by repeat (first | exact Below.refl _ _ | refine Below.drew ?_ | refine Below.alloc ?_ (by simp <;> omega) _))
    go_enter Try.func49, Try.ntmps49
    go_upto_region 1 with (fail)
    obtain ⟨W, hW⟩ : ∃ W, (((w.alloc (.cells #[.bool a.no, .int .i64 a.lx, .int .i64 a.ly, .int .i64 a.hx, .int .i64 a.hy] 38)).alloc (.cells #[.bool b.no, .int .i64 b.lx, .int .i64 b.ly, .int .i64 b.hx, .int .i64 b.hy] 38)).alloc (.cells #[.bool false, .int .i64 0, .int .i64 0, .int .i64 0, .int .i64 0] 38)) = W := ⟨_, rfl⟩
    rw [hW] at A B R HB ⊢
    clear hW
    obtain ⟨a0, a1, a2, a3, a4⟩ := Blk.cells5 A
    obtain ⟨b0, b1, b2, b3, b4⟩ := Blk.cells5 B
    obtain ⟨r0, r1, r2, r3, r4⟩ := Blk.cells5 R
    have rf0 := R.froz 0
    have rf1 := R.froz 1
    have rf2 := R.froz 2
    have rf3 := R.froz 3
    have rf4 := R.froz 4
    go_wp2_with (first
      | (go_at_call 91; refine (HH.out _ _).mono ?_; rintro e w' ⟨rfl, hb⟩; clear a0 a1 a2 a3 a4 b0 b1 b2 b3 b4 r0 r1 r2 r3 r4 rf0 rf1 rf2 rf3 rf4; have A := Blk.bel A hb; have B := Blk.bel B hb; have R := Blk.bel R hb; have HB := Lib.hid (bthen HB.out hb); clear hb; obtain ⟨a0, a1, a2, a3, a4⟩ := Blk.cells5 A; obtain ⟨b0, b1, b2, b3, b4⟩ := Blk.cells5 B; obtain ⟨r0, r1, r2, r3, r4⟩ := Blk.cells5 R; have rf0 := R.froz 0; have rf1 := R.froz 1; have rf2 := R.froz 2; have rf3 := R.froz 3; have rf4 := R.froz 4)
      | (go_at_call 48; refine (HN.out _).mono ?_; rintro e w' ⟨rfl, hb⟩; clear a0 a1 a2 a3 a4 b0 b1 b2 b3 b4 r0 r1 r2 r3 r4 rf0 rf1 rf2 rf3 rf4; have A := Blk.bel A hb; have B := Blk.bel B hb; have R := Blk.bel R hb; have HB := Lib.hid (bthen HB.out hb); clear hb; obtain ⟨a0, a1, a2, a3, a4⟩ := Blk.cells5 A; obtain ⟨b0, b1, b2, b3, b4⟩ := Blk.cells5 B; obtain ⟨r0, r1, r2, r3, r4⟩ := Blk.cells5 R; have rf0 := R.froz 0; have rf1 := R.froz 1; have rf2 := R.froz 2; have rf3 := R.froz 3; have rf4 := R.froz 4))
    refine bodyPost_ret (v := .agg #[.bool MBox.noneB.no, .int .i64 MBox.noneB.lx, .int .i64 MBox.noneB.ly, .int .i64 MBox.noneB.hx, .int .i64 MBox.noneB.hy]) ?_ rfl ⟨rfl, below_set5 HB.out (by omega) _ _ _ _ _⟩
    obtain ⟨q0, q1, q2, q3, q4⟩ := Blk.cells5 (Blk.set5 R (x' := .bool MBox.noneB.no) (y' := .int .i64 MBox.noneB.lx) (z' := .int .i64 MBox.noneB.ly) (p' := .int .i64 MBox.noneB.hx) (q' := .int .i64 MBox.noneB.hy))
    simp [results, Try.results49, go_sem, q0, q1, q2, q3, q4]
  · have hu : (.agg #[.bool (MBox.union a b).no, .int .i64 (MBox.union a b).lx, .int .i64 (MBox.union a b).ly, .int .i64 (MBox.union a b).hx, .int .i64 (MBox.union a b).hy] : Value) = .agg #[.bool b.no, .int .i64 b.lx, .int .i64 b.ly, .int .i64 b.hx, .int .i64 b.hy] := by
      have hu2 : MBox.union a b = b := by unfold MBox.union; rw [ha, hb]; rfl
      rw [hu2]
    rw [hu]
    clear hu
    have A := ((Blk.new w #[.bool a.no, .int .i64 a.lx, .int .i64 a.ly, .int .i64 a.hx, .int .i64 a.hy] 38).alloc (.cells #[.bool b.no, .int .i64 b.lx, .int .i64 b.ly, .int .i64 b.hx, .int .i64 b.hy] 38)).alloc (.cells #[.bool false, .int .i64 0, .int .i64 0, .int .i64 0, .int .i64 0] 38)
    have B := (Blk.new_at (W := (w.alloc (.cells #[.bool a.no, .int .i64 a.lx, .int .i64 a.ly, .int .i64 a.hx, .int .i64 a.hy] 38))) (g := w.heap.size + 1) (by simp) #[.bool b.no, .int .i64 b.lx, .int .i64 b.ly, .int .i64 b.hx, .int .i64 b.hy] 38).alloc (.cells #[.bool false, .int .i64 0, .int .i64 0, .int .i64 0, .int .i64 0] 38)
    have R := Blk.new_at (W := ((w.alloc (.cells #[.bool a.no, .int .i64 a.lx, .int .i64 a.ly, .int .i64 a.hx, .int .i64 a.hy] 38)).alloc (.cells #[.bool b.no, .int .i64 b.lx, .int .i64 b.ly, .int .i64 b.hx, .int .i64 b.hy] 38))) (g := w.heap.size + 1 + 1) (by simp) #[.bool false, .int .i64 0, .int .i64 0, .int .i64 0, .int .i64 0] 38
    have HB : Hid (Below w.heap.size w (((w.alloc (.cells #[.bool a.no, .int .i64 a.lx, .int .i64 a.ly, .int .i64 a.hx, .int .i64 a.hy] 38)).alloc (.cells #[.bool b.no, .int .i64 b.lx, .int .i64 b.ly, .int .i64 b.hx, .int .i64 b.hy] 38)).alloc (.cells #[.bool false, .int .i64 0, .int .i64 0, .int .i64 0, .int .i64 0] 38))) := Lib.hid (by repeat (first | exact Below.refl _ _ | refine Below.drew ?_ | refine Below.alloc ?_ (by simp <;> omega) _))
    go_enter Try.func49, Try.ntmps49
    go_upto_region 1 with (fail)
    obtain ⟨W, hW⟩ : ∃ W, (((w.alloc (.cells #[.bool a.no, .int .i64 a.lx, .int .i64 a.ly, .int .i64 a.hx, .int .i64 a.hy] 38)).alloc (.cells #[.bool b.no, .int .i64 b.lx, .int .i64 b.ly, .int .i64 b.hx, .int .i64 b.hy] 38)).alloc (.cells #[.bool false, .int .i64 0, .int .i64 0, .int .i64 0, .int .i64 0] 38)) = W := ⟨_, rfl⟩
    rw [hW] at A B R HB ⊢
    clear hW
    obtain ⟨a0, a1, a2, a3, a4⟩ := Blk.cells5 A
    obtain ⟨b0, b1, b2, b3, b4⟩ := Blk.cells5 B
    obtain ⟨r0, r1, r2, r3, r4⟩ := Blk.cells5 R
    have rf0 := R.froz 0
    have rf1 := R.froz 1
    have rf2 := R.froz 2
    have rf3 := R.froz 3
    have rf4 := R.froz 4
    go_wp2_with (first
      | (go_at_call 91; refine (HH.out _ _).mono ?_; rintro e w' ⟨rfl, hb⟩; clear a0 a1 a2 a3 a4 b0 b1 b2 b3 b4 r0 r1 r2 r3 r4 rf0 rf1 rf2 rf3 rf4; have A := Blk.bel A hb; have B := Blk.bel B hb; have R := Blk.bel R hb; have HB := Lib.hid (bthen HB.out hb); clear hb; obtain ⟨a0, a1, a2, a3, a4⟩ := Blk.cells5 A; obtain ⟨b0, b1, b2, b3, b4⟩ := Blk.cells5 B; obtain ⟨r0, r1, r2, r3, r4⟩ := Blk.cells5 R; have rf0 := R.froz 0; have rf1 := R.froz 1; have rf2 := R.froz 2; have rf3 := R.froz 3; have rf4 := R.froz 4)
      | (go_at_call 48; refine (HN.out _).mono ?_; rintro e w' ⟨rfl, hb⟩; clear a0 a1 a2 a3 a4 b0 b1 b2 b3 b4 r0 r1 r2 r3 r4 rf0 rf1 rf2 rf3 rf4; have A := Blk.bel A hb; have B := Blk.bel B hb; have R := Blk.bel R hb; have HB := Lib.hid (bthen HB.out hb); clear hb; obtain ⟨a0, a1, a2, a3, a4⟩ := Blk.cells5 A; obtain ⟨b0, b1, b2, b3, b4⟩ := Blk.cells5 B; obtain ⟨r0, r1, r2, r3, r4⟩ := Blk.cells5 R; have rf0 := R.froz 0; have rf1 := R.froz 1; have rf2 := R.froz 2; have rf3 := R.froz 3; have rf4 := R.froz 4))
    refine bodyPost_ret (v := .agg #[.bool b.no, .int .i64 b.lx, .int .i64 b.ly, .int .i64 b.hx, .int .i64 b.hy]) ?_ rfl ⟨rfl, below_set5 HB.out (by omega) _ _ _ _ _⟩
    obtain ⟨q0, q1, q2, q3, q4⟩ := Blk.cells5 (Blk.set5 R (x' := .bool b.no) (y' := .int .i64 b.lx) (z' := .int .i64 b.ly) (p' := .int .i64 b.hx) (q' := .int .i64 b.hy))
    simp [results, Try.results49, go_sem, q0, q1, q2, q3, q4]
  · have hu : (.agg #[.bool (MBox.union a b).no, .int .i64 (MBox.union a b).lx, .int .i64 (MBox.union a b).ly, .int .i64 (MBox.union a b).hx, .int .i64 (MBox.union a b).hy] : Value) = .agg #[.bool a.no, .int .i64 a.lx, .int .i64 a.ly, .int .i64 a.hx, .int .i64 a.hy] := by
      have hu2 : MBox.union a b = a := by unfold MBox.union; rw [ha, hb]; rfl
      rw [hu2]
    rw [hu]
    clear hu
    have A := ((Blk.new w #[.bool a.no, .int .i64 a.lx, .int .i64 a.ly, .int .i64 a.hx, .int .i64 a.hy] 38).alloc (.cells #[.bool b.no, .int .i64 b.lx, .int .i64 b.ly, .int .i64 b.hx, .int .i64 b.hy] 38)).alloc (.cells #[.bool false, .int .i64 0, .int .i64 0, .int .i64 0, .int .i64 0] 38)
    have B := (Blk.new_at (W := (w.alloc (.cells #[.bool a.no, .int .i64 a.lx, .int .i64 a.ly, .int .i64 a.hx, .int .i64 a.hy] 38))) (g := w.heap.size + 1) (by simp) #[.bool b.no, .int .i64 b.lx, .int .i64 b.ly, .int .i64 b.hx, .int .i64 b.hy] 38).alloc (.cells #[.bool false, .int .i64 0, .int .i64 0, .int .i64 0, .int .i64 0] 38)
    have R := Blk.new_at (W := ((w.alloc (.cells #[.bool a.no, .int .i64 a.lx, .int .i64 a.ly, .int .i64 a.hx, .int .i64 a.hy] 38)).alloc (.cells #[.bool b.no, .int .i64 b.lx, .int .i64 b.ly, .int .i64 b.hx, .int .i64 b.hy] 38))) (g := w.heap.size + 1 + 1) (by simp) #[.bool false, .int .i64 0, .int .i64 0, .int .i64 0, .int .i64 0] 38
    have HB : Hid (Below w.heap.size w (((w.alloc (.cells #[.bool a.no, .int .i64 a.lx, .int .i64 a.ly, .int .i64 a.hx, .int .i64 a.hy] 38)).alloc (.cells #[.bool b.no, .int .i64 b.lx, .int .i64 b.ly, .int .i64 b.hx, .int .i64 b.hy] 38)).alloc (.cells #[.bool false, .int .i64 0, .int .i64 0, .int .i64 0, .int .i64 0] 38))) := Lib.hid (by repeat (first | exact Below.refl _ _ | refine Below.drew ?_ | refine Below.alloc ?_ (by simp <;> omega) _))
    go_enter Try.func49, Try.ntmps49
    go_upto_region 1 with (fail)
    obtain ⟨W, hW⟩ : ∃ W, (((w.alloc (.cells #[.bool a.no, .int .i64 a.lx, .int .i64 a.ly, .int .i64 a.hx, .int .i64 a.hy] 38)).alloc (.cells #[.bool b.no, .int .i64 b.lx, .int .i64 b.ly, .int .i64 b.hx, .int .i64 b.hy] 38)).alloc (.cells #[.bool false, .int .i64 0, .int .i64 0, .int .i64 0, .int .i64 0] 38)) = W := ⟨_, rfl⟩
    rw [hW] at A B R HB ⊢
    clear hW
    obtain ⟨a0, a1, a2, a3, a4⟩ := Blk.cells5 A
    obtain ⟨b0, b1, b2, b3, b4⟩ := Blk.cells5 B
    obtain ⟨r0, r1, r2, r3, r4⟩ := Blk.cells5 R
    have rf0 := R.froz 0
    have rf1 := R.froz 1
    have rf2 := R.froz 2
    have rf3 := R.froz 3
    have rf4 := R.froz 4
    go_wp2_with (first
      | (go_at_call 91; refine (HH.out _ _).mono ?_; rintro e w' ⟨rfl, hb⟩; clear a0 a1 a2 a3 a4 b0 b1 b2 b3 b4 r0 r1 r2 r3 r4 rf0 rf1 rf2 rf3 rf4; have A := Blk.bel A hb; have B := Blk.bel B hb; have R := Blk.bel R hb; have HB := Lib.hid (bthen HB.out hb); clear hb; obtain ⟨a0, a1, a2, a3, a4⟩ := Blk.cells5 A; obtain ⟨b0, b1, b2, b3, b4⟩ := Blk.cells5 B; obtain ⟨r0, r1, r2, r3, r4⟩ := Blk.cells5 R; have rf0 := R.froz 0; have rf1 := R.froz 1; have rf2 := R.froz 2; have rf3 := R.froz 3; have rf4 := R.froz 4)
      | (go_at_call 48; refine (HN.out _).mono ?_; rintro e w' ⟨rfl, hb⟩; clear a0 a1 a2 a3 a4 b0 b1 b2 b3 b4 r0 r1 r2 r3 r4 rf0 rf1 rf2 rf3 rf4; have A := Blk.bel A hb; have B := Blk.bel B hb; have R := Blk.bel R hb; have HB := Lib.hid (bthen HB.out hb); clear hb; obtain ⟨a0, a1, a2, a3, a4⟩ := Blk.cells5 A; obtain ⟨b0, b1, b2, b3, b4⟩ := Blk.cells5 B; obtain ⟨r0, r1, r2, r3, r4⟩ := Blk.cells5 R; have rf0 := R.froz 0; have rf1 := R.froz 1; have rf2 := R.froz 2; have rf3 := R.froz 3; have rf4 := R.froz 4))
    refine bodyPost_ret (v := .agg #[.bool a.no, .int .i64 a.lx, .int .i64 a.ly, .int .i64 a.hx, .int .i64 a.hy]) ?_ rfl ⟨rfl, below_set5 HB.out (by omega) _ _ _ _ _⟩
    obtain ⟨q0, q1, q2, q3, q4⟩ := Blk.cells5 (Blk.set5 R (x' := .bool a.no) (y' := .int .i64 a.lx) (z' := .int .i64 a.ly) (p' := .int .i64 a.hx) (q' := .int .i64 a.hy))
    simp [results, Try.results49, go_sem, q0, q1, q2, q3, q4]
  · have hu : (.agg #[.bool (MBox.union a b).no, .int .i64 (MBox.union a b).lx, .int .i64 (MBox.union a b).ly, .int .i64 (MBox.union a b).hx, .int .i64 (MBox.union a b).hy] : Value) = .agg #[.bool false, .int .i64 (min a.lx b.lx), .int .i64 (min a.ly b.ly), .int .i64 (max a.hx b.hx), .int .i64 (max a.hy b.hy)] := by
      have hu2 : MBox.union a b = MBox.both a b := by unfold MBox.union; rw [ha, hb]; rfl
      rw [hu2]
      simp only [MBox.both, mn_minB, mx_maxB]
    rw [hu]
    clear hu
    have A := ((Blk.new w #[.bool a.no, .int .i64 a.lx, .int .i64 a.ly, .int .i64 a.hx, .int .i64 a.hy] 38).alloc (.cells #[.bool b.no, .int .i64 b.lx, .int .i64 b.ly, .int .i64 b.hx, .int .i64 b.hy] 38)).alloc (.cells #[.bool false, .int .i64 0, .int .i64 0, .int .i64 0, .int .i64 0] 38)
    have B := (Blk.new_at (W := (w.alloc (.cells #[.bool a.no, .int .i64 a.lx, .int .i64 a.ly, .int .i64 a.hx, .int .i64 a.hy] 38))) (g := w.heap.size + 1) (by simp) #[.bool b.no, .int .i64 b.lx, .int .i64 b.ly, .int .i64 b.hx, .int .i64 b.hy] 38).alloc (.cells #[.bool false, .int .i64 0, .int .i64 0, .int .i64 0, .int .i64 0] 38)
    have R := Blk.new_at (W := ((w.alloc (.cells #[.bool a.no, .int .i64 a.lx, .int .i64 a.ly, .int .i64 a.hx, .int .i64 a.hy] 38)).alloc (.cells #[.bool b.no, .int .i64 b.lx, .int .i64 b.ly, .int .i64 b.hx, .int .i64 b.hy] 38))) (g := w.heap.size + 1 + 1) (by simp) #[.bool false, .int .i64 0, .int .i64 0, .int .i64 0, .int .i64 0] 38
    have HB : Hid (Below w.heap.size w (((w.alloc (.cells #[.bool a.no, .int .i64 a.lx, .int .i64 a.ly, .int .i64 a.hx, .int .i64 a.hy] 38)).alloc (.cells #[.bool b.no, .int .i64 b.lx, .int .i64 b.ly, .int .i64 b.hx, .int .i64 b.hy] 38)).alloc (.cells #[.bool false, .int .i64 0, .int .i64 0, .int .i64 0, .int .i64 0] 38))) := Lib.hid (by repeat (first | exact Below.refl _ _ | refine Below.drew ?_ | refine Below.alloc ?_ (by simp <;> omega) _))
    go_enter Try.func49, Try.ntmps49
    go_upto_region 1 with (fail)
    obtain ⟨W, hW⟩ : ∃ W, (((w.alloc (.cells #[.bool a.no, .int .i64 a.lx, .int .i64 a.ly, .int .i64 a.hx, .int .i64 a.hy] 38)).alloc (.cells #[.bool b.no, .int .i64 b.lx, .int .i64 b.ly, .int .i64 b.hx, .int .i64 b.hy] 38)).alloc (.cells #[.bool false, .int .i64 0, .int .i64 0, .int .i64 0, .int .i64 0] 38)) = W := ⟨_, rfl⟩
    rw [hW] at A B R HB ⊢
    clear hW
    obtain ⟨a0, a1, a2, a3, a4⟩ := Blk.cells5 A
    obtain ⟨b0, b1, b2, b3, b4⟩ := Blk.cells5 B
    obtain ⟨r0, r1, r2, r3, r4⟩ := Blk.cells5 R
    have rf0 := R.froz 0
    have rf1 := R.froz 1
    have rf2 := R.froz 2
    have rf3 := R.froz 3
    have rf4 := R.froz 4
    go_wp2_with (first
      | (go_at_call 91; refine (HH.out _ _).mono ?_; rintro e w' ⟨rfl, hb⟩; clear a0 a1 a2 a3 a4 b0 b1 b2 b3 b4 r0 r1 r2 r3 r4 rf0 rf1 rf2 rf3 rf4; have A := Blk.bel A hb; have B := Blk.bel B hb; have R := Blk.bel R hb; have HB := Lib.hid (bthen HB.out hb); clear hb; obtain ⟨a0, a1, a2, a3, a4⟩ := Blk.cells5 A; obtain ⟨b0, b1, b2, b3, b4⟩ := Blk.cells5 B; obtain ⟨r0, r1, r2, r3, r4⟩ := Blk.cells5 R; have rf0 := R.froz 0; have rf1 := R.froz 1; have rf2 := R.froz 2; have rf3 := R.froz 3; have rf4 := R.froz 4)
      | (go_at_call 48; refine (HN.out _).mono ?_; rintro e w' ⟨rfl, hb⟩; clear a0 a1 a2 a3 a4 b0 b1 b2 b3 b4 r0 r1 r2 r3 r4 rf0 rf1 rf2 rf3 rf4; have A := Blk.bel A hb; have B := Blk.bel B hb; have R := Blk.bel R hb; have HB := Lib.hid (bthen HB.out hb); clear hb; obtain ⟨a0, a1, a2, a3, a4⟩ := Blk.cells5 A; obtain ⟨b0, b1, b2, b3, b4⟩ := Blk.cells5 B; obtain ⟨r0, r1, r2, r3, r4⟩ := Blk.cells5 R; have rf0 := R.froz 0; have rf1 := R.froz 1; have rf2 := R.froz 2; have rf3 := R.froz 3; have rf4 := R.froz 4))
    refine bodyPost_ret (v := .agg #[.bool false, .int .i64 (min a.lx b.lx), .int .i64 (min a.ly b.ly), .int .i64 (max a.hx b.hx), .int .i64 (max a.hy b.hy)]) ?_ rfl ⟨rfl, below_set5 HB.out (by omega) _ _ _ _ _⟩
    obtain ⟨q0, q1, q2, q3, q4⟩ := Blk.cells5 (Blk.set5 R (x' := .bool false) (y' := .int .i64 (min a.lx b.lx)) (z' := .int .i64 (min a.ly b.ly)) (p' := .int .i64 (max a.hx b.hx)) (q' := .int .i64 (max a.hy b.hy)))
    simp [results, Try.results49, go_sem, q0, q1, q2, q3, q4]
set_option maxHeartbeats 2000000 in
set_option maxRecDepth 100000 in
theorem refUnion_calls (a b : Bx) (w : World) : Calls Try.prog 50 #[.agg #[.bool a.no, .int .i64 a.lx, .int .i64 a.ly, .int .i64 a.hx, .int .i64 a.hy], .agg #[.bool b.no, .int .i64 b.lx, .int .i64 b.ly, .int .i64 b.hx, .int .i64 b.hy]] w fun e w' => e = .returned (.agg #[.bool (MBox.union a b).no, .int .i64 (MBox.union a b).lx, .int .i64 (MBox.union a b).ly, .int .i64 (MBox.union a b).hx, .int .i64 (MBox.union a b).hy]) ∧ Bel w w' := by
  have HH := Lib.hid refHas_calls
  have HL := Lib.hid least_calls
  have HM := Lib.hid most_calls
  cases ha : MBox.has a <;> cases hb : MBox.has b
  · have hu : (.agg #[.bool (MBox.union a b).no, .int .i64 (MBox.union a b).lx, .int .i64 (MBox.union a b).ly, .int .i64 (MBox.union a b).hx, .int .i64 (MBox.union a b).hy] : Value) = .agg #[.bool true, .int .i64 0, .int .i64 0, .int .i64 0, .int .i64 0] := by
      have hu2 : MBox.union a b = MBox.noneB := by unfold MBox.union; rw [ha, hb]; rfl
      rw [hu2]
      simp only [MBox.noneB]
    rw [hu]
    clear hu
    have A := ((Blk.new w #[.bool a.no, .int .i64 a.lx, .int .i64 a.ly, .int .i64 a.hx, .int .i64 a.hy] 38).alloc (.cells #[.bool b.no, .int .i64 b.lx, .int .i64 b.ly, .int .i64 b.hx, .int .i64 b.hy] 38)).alloc (.cells #[.bool false, .int .i64 0, .int .i64 0, .int .i64 0, .int .i64 0] 38)
    have B := (Blk.new_at (W := (w.alloc (.cells #[.bool a.no, .int .i64 a.lx, .int .i64 a.ly, .int .i64 a.hx, .int .i64 a.hy] 38))) (g := w.heap.size + 1) (by simp) #[.bool b.no, .int .i64 b.lx, .int .i64 b.ly, .int .i64 b.hx, .int .i64 b.hy] 38).alloc (.cells #[.bool false, .int .i64 0, .int .i64 0, .int .i64 0, .int .i64 0] 38)
    have R := Blk.new_at (W := ((w.alloc (.cells #[.bool a.no, .int .i64 a.lx, .int .i64 a.ly, .int .i64 a.hx, .int .i64 a.hy] 38)).alloc (.cells #[.bool b.no, .int .i64 b.lx, .int .i64 b.ly, .int .i64 b.hx, .int .i64 b.hy] 38))) (g := w.heap.size + 1 + 1) (by simp) #[.bool false, .int .i64 0, .int .i64 0, .int .i64 0, .int .i64 0] 38
    have HB : Hid (Below w.heap.size w (((w.alloc (.cells #[.bool a.no, .int .i64 a.lx, .int .i64 a.ly, .int .i64 a.hx, .int .i64 a.hy] 38)).alloc (.cells #[.bool b.no, .int .i64 b.lx, .int .i64 b.ly, .int .i64 b.hx, .int .i64 b.hy] 38)).alloc (.cells #[.bool false, .int .i64 0, .int .i64 0, .int .i64 0, .int .i64 0] 38))) := Lib.hid (by repeat (first | exact Below.refl _ _ | refine Below.drew ?_ | refine Below.alloc ?_ (by simp <;> omega) _))
    go_enter Try.func50, Try.ntmps50
    go_upto_region 1 with (fail)
    obtain ⟨W, hW⟩ : ∃ W, (((w.alloc (.cells #[.bool a.no, .int .i64 a.lx, .int .i64 a.ly, .int .i64 a.hx, .int .i64 a.hy] 38)).alloc (.cells #[.bool b.no, .int .i64 b.lx, .int .i64 b.ly, .int .i64 b.hx, .int .i64 b.hy] 38)).alloc (.cells #[.bool false, .int .i64 0, .int .i64 0, .int .i64 0, .int .i64 0] 38)) = W := ⟨_, rfl⟩
    rw [hW] at A B R HB ⊢
    clear hW
    obtain ⟨a0, a1, a2, a3, a4⟩ := Blk.cells5 A
    obtain ⟨b0, b1, b2, b3, b4⟩ := Blk.cells5 B
    obtain ⟨r0, r1, r2, r3, r4⟩ := Blk.cells5 R
    have rf0 := R.froz 0
    have rf1 := R.froz 1
    have rf2 := R.froz 2
    have rf3 := R.froz 3
    have rf4 := R.froz 4
    go_wp2_with (first
      | (go_at_call 26; refine (HH.out _ _).mono ?_; rintro e w' ⟨rfl, hb⟩; clear a0 a1 a2 a3 a4 b0 b1 b2 b3 b4 r0 r1 r2 r3 r4 rf0 rf1 rf2 rf3 rf4; have A := Blk.bel A hb; have B := Blk.bel B hb; have R := Blk.bel R hb; have HB := Lib.hid (bthen HB.out hb); clear hb; obtain ⟨a0, a1, a2, a3, a4⟩ := Blk.cells5 A; obtain ⟨b0, b1, b2, b3, b4⟩ := Blk.cells5 B; obtain ⟨r0, r1, r2, r3, r4⟩ := Blk.cells5 R; have rf0 := R.froz 0; have rf1 := R.froz 1; have rf2 := R.froz 2; have rf3 := R.froz 3; have rf4 := R.froz 4))
    refine bodyPost_ret (v := .agg #[.bool true, .int .i64 0, .int .i64 0, .int .i64 0, .int .i64 0]) ?_ rfl ⟨rfl, below_set5 HB.out (by omega) _ _ _ _ _⟩
    obtain ⟨q0, q1, q2, q3, q4⟩ := Blk.cells5 (Blk.set5 R (x' := .bool true) (y' := .int .i64 0) (z' := .int .i64 0) (p' := .int .i64 0) (q' := .int .i64 0))
    simp [results, Try.results50, go_sem, q0, q1, q2, q3, q4]
  · have hu : (.agg #[.bool (MBox.union a b).no, .int .i64 (MBox.union a b).lx, .int .i64 (MBox.union a b).ly, .int .i64 (MBox.union a b).hx, .int .i64 (MBox.union a b).hy] : Value) = .agg #[.bool b.no, .int .i64 b.lx, .int .i64 b.ly, .int .i64 b.hx, .int .i64 b.hy] := by
      have hu2 : MBox.union a b = b := by unfold MBox.union; rw [ha, hb]; rfl
      rw [hu2]
    rw [hu]
    clear hu
    have A := ((Blk.new w #[.bool a.no, .int .i64 a.lx, .int .i64 a.ly, .int .i64 a.hx, .int .i64 a.hy] 38).alloc (.cells #[.bool b.no, .int .i64 b.lx, .int .i64 b.ly, .int .i64 b.hx, .int .i64 b.hy] 38)).alloc (.cells #[.bool false, .int .i64 0, .int .i64 0, .int .i64 0, .int .i64 0] 38)
    have B := (Blk.new_at (W := (w.alloc (.cells #[.bool a.no, .int .i64 a.lx, .int .i64 a.ly, .int .i64 a.hx, .int .i64 a.hy] 38))) (g := w.heap.size + 1) (by simp) #[.bool b.no, .int .i64 b.lx, .int .i64 b.ly, .int .i64 b.hx, .int .i64 b.hy] 38).alloc (.cells #[.bool false, .int .i64 0, .int .i64 0, .int .i64 0, .int .i64 0] 38)
    have R := Blk.new_at (W := ((w.alloc (.cells #[.bool a.no, .int .i64 a.lx, .int .i64 a.ly, .int .i64 a.hx, .int .i64 a.hy] 38)).alloc (.cells #[.bool b.no, .int .i64 b.lx, .int .i64 b.ly, .int .i64 b.hx, .int .i64 b.hy] 38))) (g := w.heap.size + 1 + 1) (by simp) #[.bool false, .int .i64 0, .int .i64 0, .int .i64 0, .int .i64 0] 38
    have HB : Hid (Below w.heap.size w (((w.alloc (.cells #[.bool a.no, .int .i64 a.lx, .int .i64 a.ly, .int .i64 a.hx, .int .i64 a.hy] 38)).alloc (.cells #[.bool b.no, .int .i64 b.lx, .int .i64 b.ly, .int .i64 b.hx, .int .i64 b.hy] 38)).alloc (.cells #[.bool false, .int .i64 0, .int .i64 0, .int .i64 0, .int .i64 0] 38))) := Lib.hid (by repeat (first | exact Below.refl _ _ | refine Below.drew ?_ | refine Below.alloc ?_ (by simp <;> omega) _))
    go_enter Try.func50, Try.ntmps50
    go_upto_region 1 with (fail)
    obtain ⟨W, hW⟩ : ∃ W, (((w.alloc (.cells #[.bool a.no, .int .i64 a.lx, .int .i64 a.ly, .int .i64 a.hx, .int .i64 a.hy] 38)).alloc (.cells #[.bool b.no, .int .i64 b.lx, .int .i64 b.ly, .int .i64 b.hx, .int .i64 b.hy] 38)).alloc (.cells #[.bool false, .int .i64 0, .int .i64 0, .int .i64 0, .int .i64 0] 38)) = W := ⟨_, rfl⟩
    rw [hW] at A B R HB ⊢
    clear hW
    obtain ⟨a0, a1, a2, a3, a4⟩ := Blk.cells5 A
    obtain ⟨b0, b1, b2, b3, b4⟩ := Blk.cells5 B
    obtain ⟨r0, r1, r2, r3, r4⟩ := Blk.cells5 R
    have rf0 := R.froz 0
    have rf1 := R.froz 1
    have rf2 := R.froz 2
    have rf3 := R.froz 3
    have rf4 := R.froz 4
    go_wp2_with (first
      | (go_at_call 26; refine (HH.out _ _).mono ?_; rintro e w' ⟨rfl, hb⟩; clear a0 a1 a2 a3 a4 b0 b1 b2 b3 b4 r0 r1 r2 r3 r4 rf0 rf1 rf2 rf3 rf4; have A := Blk.bel A hb; have B := Blk.bel B hb; have R := Blk.bel R hb; have HB := Lib.hid (bthen HB.out hb); clear hb; obtain ⟨a0, a1, a2, a3, a4⟩ := Blk.cells5 A; obtain ⟨b0, b1, b2, b3, b4⟩ := Blk.cells5 B; obtain ⟨r0, r1, r2, r3, r4⟩ := Blk.cells5 R; have rf0 := R.froz 0; have rf1 := R.froz 1; have rf2 := R.froz 2; have rf3 := R.froz 3; have rf4 := R.froz 4))
    refine bodyPost_ret (v := .agg #[.bool b.no, .int .i64 b.lx, .int .i64 b.ly, .int .i64 b.hx, .int .i64 b.hy]) ?_ rfl ⟨rfl, below_set5 HB.out (by omega) _ _ _ _ _⟩
    obtain ⟨q0, q1, q2, q3, q4⟩ := Blk.cells5 (Blk.set5 R (x' := .bool b.no) (y' := .int .i64 b.lx) (z' := .int .i64 b.ly) (p' := .int .i64 b.hx) (q' := .int .i64 b.hy))
    simp [results, Try.results50, go_sem, q0, q1, q2, q3, q4]
  · have hu : (.agg #[.bool (MBox.union a b).no, .int .i64 (MBox.union a b).lx, .int .i64 (MBox.union a b).ly, .int .i64 (MBox.union a b).hx, .int .i64 (MBox.union a b).hy] : Value) = .agg #[.bool a.no, .int .i64 a.lx, .int .i64 a.ly, .int .i64 a.hx, .int .i64 a.hy] := by
      have hu2 : MBox.union a b = a := by unfold MBox.union; rw [ha, hb]; rfl
      rw [hu2]
    rw [hu]
    clear hu
    have A := ((Blk.new w #[.bool a.no, .int .i64 a.lx, .int .i64 a.ly, .int .i64 a.hx, .int .i64 a.hy] 38).alloc (.cells #[.bool b.no, .int .i64 b.lx, .int .i64 b.ly, .int .i64 b.hx, .int .i64 b.hy] 38)).alloc (.cells #[.bool false, .int .i64 0, .int .i64 0, .int .i64 0, .int .i64 0] 38)
    have B := (Blk.new_at (W := (w.alloc (.cells #[.bool a.no, .int .i64 a.lx, .int .i64 a.ly, .int .i64 a.hx, .int .i64 a.hy] 38))) (g := w.heap.size + 1) (by simp) #[.bool b.no, .int .i64 b.lx, .int .i64 b.ly, .int .i64 b.hx, .int .i64 b.hy] 38).alloc (.cells #[.bool false, .int .i64 0, .int .i64 0, .int .i64 0, .int .i64 0] 38)
    have R := Blk.new_at (W := ((w.alloc (.cells #[.bool a.no, .int .i64 a.lx, .int .i64 a.ly, .int .i64 a.hx, .int .i64 a.hy] 38)).alloc (.cells #[.bool b.no, .int .i64 b.lx, .int .i64 b.ly, .int .i64 b.hx, .int .i64 b.hy] 38))) (g := w.heap.size + 1 + 1) (by simp) #[.bool false, .int .i64 0, .int .i64 0, .int .i64 0, .int .i64 0] 38
    have HB : Hid (Below w.heap.size w (((w.alloc (.cells #[.bool a.no, .int .i64 a.lx, .int .i64 a.ly, .int .i64 a.hx, .int .i64 a.hy] 38)).alloc (.cells #[.bool b.no, .int .i64 b.lx, .int .i64 b.ly, .int .i64 b.hx, .int .i64 b.hy] 38)).alloc (.cells #[.bool false, .int .i64 0, .int .i64 0, .int .i64 0, .int .i64 0] 38))) := Lib.hid (by repeat (first | exact Below.refl _ _ | refine Below.drew ?_ | refine Below.alloc ?_ (by simp <;> omega) _))
    go_enter Try.func50, Try.ntmps50
    go_upto_region 1 with (fail)
    obtain ⟨W, hW⟩ : ∃ W, (((w.alloc (.cells #[.bool a.no, .int .i64 a.lx, .int .i64 a.ly, .int .i64 a.hx, .int .i64 a.hy] 38)).alloc (.cells #[.bool b.no, .int .i64 b.lx, .int .i64 b.ly, .int .i64 b.hx, .int .i64 b.hy] 38)).alloc (.cells #[.bool false, .int .i64 0, .int .i64 0, .int .i64 0, .int .i64 0] 38)) = W := ⟨_, rfl⟩
    rw [hW] at A B R HB ⊢
    clear hW
    obtain ⟨a0, a1, a2, a3, a4⟩ := Blk.cells5 A
    obtain ⟨b0, b1, b2, b3, b4⟩ := Blk.cells5 B
    obtain ⟨r0, r1, r2, r3, r4⟩ := Blk.cells5 R
    have rf0 := R.froz 0
    have rf1 := R.froz 1
    have rf2 := R.froz 2
    have rf3 := R.froz 3
    have rf4 := R.froz 4
    go_wp2_with (first
      | (go_at_call 26; refine (HH.out _ _).mono ?_; rintro e w' ⟨rfl, hb⟩; clear a0 a1 a2 a3 a4 b0 b1 b2 b3 b4 r0 r1 r2 r3 r4 rf0 rf1 rf2 rf3 rf4; have A := Blk.bel A hb; have B := Blk.bel B hb; have R := Blk.bel R hb; have HB := Lib.hid (bthen HB.out hb); clear hb; obtain ⟨a0, a1, a2, a3, a4⟩ := Blk.cells5 A; obtain ⟨b0, b1, b2, b3, b4⟩ := Blk.cells5 B; obtain ⟨r0, r1, r2, r3, r4⟩ := Blk.cells5 R; have rf0 := R.froz 0; have rf1 := R.froz 1; have rf2 := R.froz 2; have rf3 := R.froz 3; have rf4 := R.froz 4))
    refine bodyPost_ret (v := .agg #[.bool a.no, .int .i64 a.lx, .int .i64 a.ly, .int .i64 a.hx, .int .i64 a.hy]) ?_ rfl ⟨rfl, below_set5 HB.out (by omega) _ _ _ _ _⟩
    obtain ⟨q0, q1, q2, q3, q4⟩ := Blk.cells5 (Blk.set5 R (x' := .bool a.no) (y' := .int .i64 a.lx) (z' := .int .i64 a.ly) (p' := .int .i64 a.hx) (q' := .int .i64 a.hy))
    simp [results, Try.results50, go_sem, q0, q1, q2, q3, q4]
  · have hu : (.agg #[.bool (MBox.union a b).no, .int .i64 (MBox.union a b).lx, .int .i64 (MBox.union a b).ly, .int .i64 (MBox.union a b).hx, .int .i64 (MBox.union a b).hy] : Value) = .agg #[.bool false, .int .i64 (MBox.mn a.lx b.lx), .int .i64 (MBox.mn a.ly b.ly), .int .i64 (MBox.mx a.hx b.hx), .int .i64 (MBox.mx a.hy b.hy)] := by
      have hu2 : MBox.union a b = MBox.both a b := by unfold MBox.union; rw [ha, hb]; rfl
      rw [hu2]
      simp only [MBox.both]
    rw [hu]
    clear hu
    have A := ((Blk.new w #[.bool a.no, .int .i64 a.lx, .int .i64 a.ly, .int .i64 a.hx, .int .i64 a.hy] 38).alloc (.cells #[.bool b.no, .int .i64 b.lx, .int .i64 b.ly, .int .i64 b.hx, .int .i64 b.hy] 38)).alloc (.cells #[.bool false, .int .i64 0, .int .i64 0, .int .i64 0, .int .i64 0] 38)
    have B := (Blk.new_at (W := (w.alloc (.cells #[.bool a.no, .int .i64 a.lx, .int .i64 a.ly, .int .i64 a.hx, .int .i64 a.hy] 38))) (g := w.heap.size + 1) (by simp) #[.bool b.no, .int .i64 b.lx, .int .i64 b.ly, .int .i64 b.hx, .int .i64 b.hy] 38).alloc (.cells #[.bool false, .int .i64 0, .int .i64 0, .int .i64 0, .int .i64 0] 38)
    have R := Blk.new_at (W := ((w.alloc (.cells #[.bool a.no, .int .i64 a.lx, .int .i64 a.ly, .int .i64 a.hx, .int .i64 a.hy] 38)).alloc (.cells #[.bool b.no, .int .i64 b.lx, .int .i64 b.ly, .int .i64 b.hx, .int .i64 b.hy] 38))) (g := w.heap.size + 1 + 1) (by simp) #[.bool false, .int .i64 0, .int .i64 0, .int .i64 0, .int .i64 0] 38
    have HB : Hid (Below w.heap.size w (((w.alloc (.cells #[.bool a.no, .int .i64 a.lx, .int .i64 a.ly, .int .i64 a.hx, .int .i64 a.hy] 38)).alloc (.cells #[.bool b.no, .int .i64 b.lx, .int .i64 b.ly, .int .i64 b.hx, .int .i64 b.hy] 38)).alloc (.cells #[.bool false, .int .i64 0, .int .i64 0, .int .i64 0, .int .i64 0] 38))) := Lib.hid (by repeat (first | exact Below.refl _ _ | refine Below.drew ?_ | refine Below.alloc ?_ (by simp <;> omega) _))
    go_enter Try.func50, Try.ntmps50
    go_upto_region 1 with (fail)
    obtain ⟨W, hW⟩ : ∃ W, (((w.alloc (.cells #[.bool a.no, .int .i64 a.lx, .int .i64 a.ly, .int .i64 a.hx, .int .i64 a.hy] 38)).alloc (.cells #[.bool b.no, .int .i64 b.lx, .int .i64 b.ly, .int .i64 b.hx, .int .i64 b.hy] 38)).alloc (.cells #[.bool false, .int .i64 0, .int .i64 0, .int .i64 0, .int .i64 0] 38)) = W := ⟨_, rfl⟩
    rw [hW] at A B R HB ⊢
    clear hW
    obtain ⟨a0, a1, a2, a3, a4⟩ := Blk.cells5 A
    obtain ⟨b0, b1, b2, b3, b4⟩ := Blk.cells5 B
    obtain ⟨r0, r1, r2, r3, r4⟩ := Blk.cells5 R
    have rf0 := R.froz 0
    have rf1 := R.froz 1
    have rf2 := R.froz 2
    have rf3 := R.froz 3
    have rf4 := R.froz 4
    go_wp2_with (first
      | (go_at_call 26; refine (HH.out _ _).mono ?_; rintro e w' ⟨rfl, hb⟩; clear a0 a1 a2 a3 a4 b0 b1 b2 b3 b4 r0 r1 r2 r3 r4 rf0 rf1 rf2 rf3 rf4; have A := Blk.bel A hb; have B := Blk.bel B hb; have R := Blk.bel R hb; have HB := Lib.hid (bthen HB.out hb); clear hb; obtain ⟨a0, a1, a2, a3, a4⟩ := Blk.cells5 A; obtain ⟨b0, b1, b2, b3, b4⟩ := Blk.cells5 B; obtain ⟨r0, r1, r2, r3, r4⟩ := Blk.cells5 R; have rf0 := R.froz 0; have rf1 := R.froz 1; have rf2 := R.froz 2; have rf3 := R.froz 3; have rf4 := R.froz 4))
    have hS0 := And.intro a0 (And.intro a1 (And.intro a2 (And.intro a3 (And.intro a4 (And.intro b0 (And.intro b1 (And.intro b2 (And.intro b3 b4))))))))
    go_region_held3 (fun w' => w'.cell? ⟨w.heap.size, 0, none⟩ = some (.bool a.no) ∧ w'.cell? ⟨w.heap.size, 1, none⟩ = some (.int .i64 a.lx) ∧ w'.cell? ⟨w.heap.size, 2, none⟩ = some (.int .i64 a.ly) ∧ w'.cell? ⟨w.heap.size, 3, none⟩ = some (.int .i64 a.hx) ∧ w'.cell? ⟨w.heap.size, 4, none⟩ = some (.int .i64 a.hy) ∧ w'.cell? ⟨w.heap.size + 1, 0, none⟩ = some (.bool b.no) ∧ w'.cell? ⟨w.heap.size + 1, 1, none⟩ = some (.int .i64 b.lx) ∧ w'.cell? ⟨w.heap.size + 1, 2, none⟩ = some (.int .i64 b.ly) ∧ w'.cell? ⟨w.heap.size + 1, 3, none⟩ = some (.int .i64 b.hx) ∧ w'.cell? ⟨w.heap.size + 1, 4, none⟩ = some (.int .i64 b.hy)) (first | with_reducible exact kbb (Bel.drew _) hS0 | with_reducible assumption | with_reducible exact kbb (Bel.drew _) (kbb_set5 (by omega) (by omega) hS0))
      (first
      | (go_at_call 93; refine (HL.out _ _ _).mono ?_; rintro e w' ⟨rfl, rfl⟩)
      | (go_at_call 94; refine (HM.out _ _ _).mono ?_; rintro e w' ⟨rfl, rfl⟩))
    go_wp2
    refine bodyPost_ret (v := .agg #[.bool false, .int .i64 (MBox.mn a.lx b.lx), .int .i64 (MBox.mn a.ly b.ly), .int .i64 (MBox.mx a.hx b.hx), .int .i64 (MBox.mx a.hy b.hy)]) ?_ rfl ⟨rfl, (below_set5 HB.out (by omega) _ _ _ _ _).drew⟩
    obtain ⟨q0, q1, q2, q3, q4⟩ := Blk.cells5 (Blk.drew (Blk.set5 R (x' := .bool false) (y' := .int .i64 (MBox.mn a.lx b.lx)) (z' := .int .i64 (MBox.mn a.ly b.ly)) (p' := .int .i64 (MBox.mx a.hx b.hx)) (q' := .int .i64 (MBox.mx a.hy b.hy))))
    simp [results, Try.results50, go_sem, q0, q1, q2, q3, q4]

end Go.Proofs.Ytljcingmjemohaa.K
