/- Boxes: around two. -/
import Derived.Test.YtakkifedcbhgfaaDoorBase
import Derived.Handy
import Derived.Test.YtakkifedcbhgfaaDoorWBox1
namespace Go.Proofs.YtakkifedcbhgfaaDoor.K
open Go Go.RowKit Go.Proofs.YtakkifedcbhgfaaDoorW.PrintWords Go.Proofs.YtakkifedcbhgfaaDoorW.PrintLast Go.Proofs.YtakkifedcbhgfaaDoorW.PrintMore
set_option linter.unusedVariables false
set_option linter.unusedSimpArgs false
open Go.Proofs.YtakkifedcbhgfaaDoor.MWide (W64 U192 addV subV addOk subOk cmpV)
open Go.Proofs.YtakkifedcbhgfaaDoor.MBox (Bx)
theorem kbb_set5 {w : World} {g f j : Nat} {b a : Bx} {x y z p q : Value} (hg : g ≠ j) (hf : f ≠ j) (hh : w.cell? ⟨g, 0, none⟩ = some (.bool b.no) ∧ w.cell? ⟨g, 1, none⟩ = some (.int .i64 b.lx) ∧ w.cell? ⟨g, 2, none⟩ = some (.int .i64 b.ly) ∧ w.cell? ⟨g, 3, none⟩ = some (.int .i64 b.hx) ∧ w.cell? ⟨g, 4, none⟩ = some (.int .i64 b.hy) ∧ w.cell? ⟨f, 0, none⟩ = some (.bool a.no) ∧ w.cell? ⟨f, 1, none⟩ = some (.int .i64 a.lx) ∧ w.cell? ⟨f, 2, none⟩ = some (.int .i64 a.ly) ∧ w.cell? ⟨f, 3, none⟩ = some (.int .i64 a.hx) ∧ w.cell? ⟨f, 4, none⟩ = some (.int .i64 a.hy)) :
    let W := ((((w.setCell ⟨j, 0, none⟩ x).setCell ⟨j, 1, none⟩ y).setCell ⟨j, 2, none⟩ z).setCell ⟨j, 3, none⟩ p).setCell ⟨j, 4, none⟩ q
    W.cell? ⟨g, 0, none⟩ = some (.bool b.no) ∧ W.cell? ⟨g, 1, none⟩ = some (.int .i64 b.lx) ∧ W.cell? ⟨g, 2, none⟩ = some (.int .i64 b.ly) ∧ W.cell? ⟨g, 3, none⟩ = some (.int .i64 b.hx) ∧ W.cell? ⟨g, 4, none⟩ = some (.int .i64 b.hy) ∧ W.cell? ⟨f, 0, none⟩ = some (.bool a.no) ∧ W.cell? ⟨f, 1, none⟩ = some (.int .i64 a.lx) ∧ W.cell? ⟨f, 2, none⟩ = some (.int .i64 a.ly) ∧ W.cell? ⟨f, 3, none⟩ = some (.int .i64 a.hx) ∧ W.cell? ⟨f, 4, none⟩ = some (.int .i64 a.hy) := by
  obtain ⟨h0, h1, h2, h3, h4, i0, i1, i2, i3, i4⟩ := hh
  have k : ∀ {g n : Nat} {u : Value}, g ≠ j → w.cell? ⟨g, n, none⟩ = some u → (((((w.setCell ⟨j, 0, none⟩ x).setCell ⟨j, 1, none⟩ y).setCell ⟨j, 2, none⟩ z).setCell ⟨j, 3, none⟩ p).setCell ⟨j, 4, none⟩ q).cell? ⟨g, n, none⟩ = some u := fun hg h => by rw [cell_set_ne _ _ _ _ _ _ hg, cell_set_ne _ _ _ _ _ _ hg, cell_set_ne _ _ _ _ _ _ hg, cell_set_ne _ _ _ _ _ _ hg, cell_set_ne _ _ _ _ _ _ hg]; exact h
  exact ⟨k hg h0, k hg h1, k hg h2, k hg h3, k hg h4, k hf i0, k hf i1, k hf i2, k hf i3, k hf i4⟩
theorem kbb {w w' : World} {g f : Nat} {b a : Bx} (hb : Bel w w') (hh : w.cell? ⟨g, 0, none⟩ = some (.bool b.no) ∧ w.cell? ⟨g, 1, none⟩ = some (.int .i64 b.lx) ∧ w.cell? ⟨g, 2, none⟩ = some (.int .i64 b.ly) ∧ w.cell? ⟨g, 3, none⟩ = some (.int .i64 b.hx) ∧ w.cell? ⟨g, 4, none⟩ = some (.int .i64 b.hy) ∧ w.cell? ⟨f, 0, none⟩ = some (.bool a.no) ∧ w.cell? ⟨f, 1, none⟩ = some (.int .i64 a.lx) ∧ w.cell? ⟨f, 2, none⟩ = some (.int .i64 a.ly) ∧ w.cell? ⟨f, 3, none⟩ = some (.int .i64 a.hx) ∧ w.cell? ⟨f, 4, none⟩ = some (.int .i64 a.hy)) : w'.cell? ⟨g, 0, none⟩ = some (.bool b.no) ∧ w'.cell? ⟨g, 1, none⟩ = some (.int .i64 b.lx) ∧ w'.cell? ⟨g, 2, none⟩ = some (.int .i64 b.ly) ∧ w'.cell? ⟨g, 3, none⟩ = some (.int .i64 b.hx) ∧ w'.cell? ⟨g, 4, none⟩ = some (.int .i64 b.hy) ∧ w'.cell? ⟨f, 0, none⟩ = some (.bool a.no) ∧ w'.cell? ⟨f, 1, none⟩ = some (.int .i64 a.lx) ∧ w'.cell? ⟨f, 2, none⟩ = some (.int .i64 a.ly) ∧ w'.cell? ⟨f, 3, none⟩ = some (.int .i64 a.hx) ∧ w'.cell? ⟨f, 4, none⟩ = some (.int .i64 a.hy) := by
  obtain ⟨h0, h1, h2, h3, h4, i0, i1, i2, i3, i4⟩ := hh
  exact ⟨kc hb h0, kc hb h1, kc hb h2, kc hb h3, kc hb h4, kc hb i0, kc hb i1, kc hb i2, kc hb i3, kc hb i4⟩
theorem mn_min (a b : Int) : MBox.mn a b = min a b := by have := MBox.mn_iff a b; omega
theorem mx_max (a b : Int) : MBox.mx a b = max a b := by have := MBox.mx_iff a b; omega
set_option maxHeartbeats 2000000 in
set_option maxRecDepth 100000 in
theorem union_calls (a b : Bx) (w : World) : Calls Tryd.prog 41 #[.agg #[.bool a.no, .int .i64 a.lx, .int .i64 a.ly, .int .i64 a.hx, .int .i64 a.hy], .agg #[.bool b.no, .int .i64 b.lx, .int .i64 b.ly, .int .i64 b.hx, .int .i64 b.hy]] w fun e w' => e = .returned (.agg #[.bool (MBox.union a b).no, .int .i64 (MBox.union a b).lx, .int .i64 (MBox.union a b).ly, .int .i64 (MBox.union a b).hx, .int .i64 (MBox.union a b).hy]) ∧ Bel w w' := by
  have HH := Lib.hid has_calls
  have HN := Lib.hid none_calls
  cases ha : MBox.has a <;> cases hb : MBox.has b
  · have hu : (.agg #[.bool (MBox.union a b).no, .int .i64 (MBox.union a b).lx, .int .i64 (MBox.union a b).ly, .int .i64 (MBox.union a b).hx, .int .i64 (MBox.union a b).hy] : Value) = .agg #[.bool MBox.noneB.no, .int .i64 MBox.noneB.lx, .int .i64 MBox.noneB.ly, .int .i64 MBox.noneB.hx, .int .i64 MBox.noneB.hy] := by
      have hu2 : MBox.union a b = MBox.noneB := by unfold MBox.union; rw [ha, hb]; rfl
      rw [hu2]
    rw [hu]
    clear hu
    have A := ((Blk.new w #[.bool a.no, .int .i64 a.lx, .int .i64 a.ly, .int .i64 a.hx, .int .i64 a.hy] 52).alloc (.cells #[.bool b.no, .int .i64 b.lx, .int .i64 b.ly, .int .i64 b.hx, .int .i64 b.hy] 52)).alloc (.cells #[.bool false, .int .i64 0, .int .i64 0, .int .i64 0, .int .i64 0] 52)
    have B := (Blk.new_at (W := (w.alloc (.cells #[.bool a.no, .int .i64 a.lx, .int .i64 a.ly, .int .i64 a.hx, .int .i64 a.hy] 52))) (g := w.heap.size + 1) (by simp) #[.bool b.no, .int .i64 b.lx, .int .i64 b.ly, .int .i64 b.hx, .int .i64 b.hy] 52).alloc (.cells #[.bool false, .int .i64 0, .int .i64 0, .int .i64 0, .int .i64 0] 52)
    have R := Blk.new_at (W := ((w.alloc (.cells #[.bool a.no, .int .i64 a.lx, .int .i64 a.ly, .int .i64 a.hx, .int .i64 a.hy] 52)).alloc (.cells #[.bool b.no, .int .i64 b.lx, .int .i64 b.ly, .int .i64 b.hx, .int .i64 b.hy] 52))) (g := w.heap.size + 1 + 1) (by simp) #[.bool false, .int .i64 0, .int .i64 0, .int .i64 0, .int .i64 0] 52
    have HB : Hid (Below w.heap.size w (((w.alloc (.cells #[.bool a.no, .int .i64 a.lx, .int .i64 a.ly, .int .i64 a.hx, .int .i64 a.hy] 52)).alloc (.cells #[.bool b.no, .int .i64 b.lx, .int .i64 b.ly, .int .i64 b.hx, .int .i64 b.hy] 52)).alloc (.cells #[.bool false, .int .i64 0, .int .i64 0, .int .i64 0, .int .i64 0] 52))) := Lib.hid (by repeat (first | exact Below.refl _ _ | refine Below.drew ?_ | refine Below.alloc ?_ (by simp <;> omega) _))
    go_enter Tryd.func41, Tryd.ntmps41
    go_upto_region 1 with (fail)
    obtain ⟨W, hW⟩ : ∃ W, (((w.alloc (.cells #[.bool a.no, .int .i64 a.lx, .int .i64 a.ly, .int .i64 a.hx, .int .i64 a.hy] 52)).alloc (.cells #[.bool b.no, .int .i64 b.lx, .int .i64 b.ly, .int .i64 b.hx, .int .i64 b.hy] 52)).alloc (.cells #[.bool false, .int .i64 0, .int .i64 0, .int .i64 0, .int .i64 0] 52)) = W := ⟨_, rfl⟩
    rw [hW] at A B R HB ⊢
    clear hW
    obtain ⟨a0, a1, a2, a3, a4⟩ := Blk.cells5 A
    obtain ⟨b0, b1, b2, b3, b4⟩ := Blk.cells5 B
    obtain ⟨r0, r1, r2, r3, r4⟩ := Blk.cells5 R
    have rf0 := R.froz 0
    have rf1 := R.froz 1
    have rf2 := R.froz 2
    have rf3 := R.froz 3
    have rf4 := R.froz 4
    go_wp2_with (first
      | (go_at_call 74; refine (HH.out _ _).mono ?_; rintro e w' ⟨rfl, hb⟩; clear a0 a1 a2 a3 a4 b0 b1 b2 b3 b4 r0 r1 r2 r3 r4 rf0 rf1 rf2 rf3 rf4; have A := Blk.bel A hb; have B := Blk.bel B hb; have R := Blk.bel R hb; have HB := Lib.hid (bthen HB.out hb); clear hb; obtain ⟨a0, a1, a2, a3, a4⟩ := Blk.cells5 A; obtain ⟨b0, b1, b2, b3, b4⟩ := Blk.cells5 B; obtain ⟨r0, r1, r2, r3, r4⟩ := Blk.cells5 R; have rf0 := R.froz 0; have rf1 := R.froz 1; have rf2 := R.froz 2; have rf3 := R.froz 3; have rf4 := R.froz 4)
      | (go_at_call 33; refine (HN.out _).mono ?_; rintro e w' ⟨rfl, hb⟩; clear a0 a1 a2 a3 a4 b0 b1 b2 b3 b4 r0 r1 r2 r3 r4 rf0 rf1 rf2 rf3 rf4; have A := Blk.bel A hb; have B := Blk.bel B hb; have R := Blk.bel R hb; have HB := Lib.hid (bthen HB.out hb); clear hb; obtain ⟨a0, a1, a2, a3, a4⟩ := Blk.cells5 A; obtain ⟨b0, b1, b2, b3, b4⟩ := Blk.cells5 B; obtain ⟨r0, r1, r2, r3, r4⟩ := Blk.cells5 R; have rf0 := R.froz 0; have rf1 := R.froz 1; have rf2 := R.froz 2; have rf3 := R.froz 3; have rf4 := R.froz 4))
    refine bodyPost_ret (v := .agg #[.bool MBox.noneB.no, .int .i64 MBox.noneB.lx, .int .i64 MBox.noneB.ly, .int .i64 MBox.noneB.hx, .int .i64 MBox.noneB.hy]) ?_ rfl ⟨rfl, below_set5 HB.out (by omega) _ _ _ _ _⟩
    obtain ⟨q0, q1, q2, q3, q4⟩ := Blk.cells5 (Blk.set5 R (x' := .bool MBox.noneB.no) (y' := .int .i64 MBox.noneB.lx) (z' := .int .i64 MBox.noneB.ly) (p' := .int .i64 MBox.noneB.hx) (q' := .int .i64 MBox.noneB.hy))
    simp [results, Tryd.results41, go_sem, q0, q1, q2, q3, q4]
  · have hu : (.agg #[.bool (MBox.union a b).no, .int .i64 (MBox.union a b).lx, .int .i64 (MBox.union a b).ly, .int .i64 (MBox.union a b).hx, .int .i64 (MBox.union a b).hy] : Value) = .agg #[.bool b.no, .int .i64 b.lx, .int .i64 b.ly, .int .i64 b.hx, .int .i64 b.hy] := by
      have hu2 : MBox.union a b = b := by unfold MBox.union; rw [ha, hb]; rfl
      rw [hu2]
    rw [hu]
    clear hu
    have A := ((Blk.new w #[.bool a.no, .int .i64 a.lx, .int .i64 a.ly, .int .i64 a.hx, .int .i64 a.hy] 52).alloc (.cells #[.bool b.no, .int .i64 b.lx, .int .i64 b.ly, .int .i64 b.hx, .int .i64 b.hy] 52)).alloc (.cells #[.bool false, .int .i64 0, .int .i64 0, .int .i64 0, .int .i64 0] 52)
    have B := (Blk.new_at (W := (w.alloc (.cells #[.bool a.no, .int .i64 a.lx, .int .i64 a.ly, .int .i64 a.hx, .int .i64 a.hy] 52))) (g := w.heap.size + 1) (by simp) #[.bool b.no, .int .i64 b.lx, .int .i64 b.ly, .int .i64 b.hx, .int .i64 b.hy] 52).alloc (.cells #[.bool false, .int .i64 0, .int .i64 0, .int .i64 0, .int .i64 0] 52)
    have R := Blk.new_at (W := ((w.alloc (.cells #[.bool a.no, .int .i64 a.lx, .int .i64 a.ly, .int .i64 a.hx, .int .i64 a.hy] 52)).alloc (.cells #[.bool b.no, .int .i64 b.lx, .int .i64 b.ly, .int .i64 b.hx, .int .i64 b.hy] 52))) (g := w.heap.size + 1 + 1) (by simp) #[.bool false, .int .i64 0, .int .i64 0, .int .i64 0, .int .i64 0] 52
    have HB : Hid (Below w.heap.size w (((w.alloc (.cells #[.bool a.no, .int .i64 a.lx, .int .i64 a.ly, .int .i64 a.hx, .int .i64 a.hy] 52)).alloc (.cells #[.bool b.no, .int .i64 b.lx, .int .i64 b.ly, .int .i64 b.hx, .int .i64 b.hy] 52)).alloc (.cells #[.bool false, .int .i64 0, .int .i64 0, .int .i64 0, .int .i64 0] 52))) := Lib.hid (by repeat (first | exact Below.refl _ _ | refine Below.drew ?_ | refine Below.alloc ?_ (by simp <;> omega) _))
    go_enter Tryd.func41, Tryd.ntmps41
    go_upto_region 1 with (fail)
    obtain ⟨W, hW⟩ : ∃ W, (((w.alloc (.cells #[.bool a.no, .int .i64 a.lx, .int .i64 a.ly, .int .i64 a.hx, .int .i64 a.hy] 52)).alloc (.cells #[.bool b.no, .int .i64 b.lx, .int .i64 b.ly, .int .i64 b.hx, .int .i64 b.hy] 52)).alloc (.cells #[.bool false, .int .i64 0, .int .i64 0, .int .i64 0, .int .i64 0] 52)) = W := ⟨_, rfl⟩
    rw [hW] at A B R HB ⊢
    clear hW
    obtain ⟨a0, a1, a2, a3, a4⟩ := Blk.cells5 A
    obtain ⟨b0, b1, b2, b3, b4⟩ := Blk.cells5 B
    obtain ⟨r0, r1, r2, r3, r4⟩ := Blk.cells5 R
    have rf0 := R.froz 0
    have rf1 := R.froz 1
    have rf2 := R.froz 2
    have rf3 := R.froz 3
    have rf4 := R.froz 4
    go_wp2_with (first
      | (go_at_call 74; refine (HH.out _ _).mono ?_; rintro e w' ⟨rfl, hb⟩; clear a0 a1 a2 a3 a4 b0 b1 b2 b3 b4 r0 r1 r2 r3 r4 rf0 rf1 rf2 rf3 rf4; have A := Blk.bel A hb; have B := Blk.bel B hb; have R := Blk.bel R hb; have HB := Lib.hid (bthen HB.out hb); clear hb; obtain ⟨a0, a1, a2, a3, a4⟩ := Blk.cells5 A; obtain ⟨b0, b1, b2, b3, b4⟩ := Blk.cells5 B; obtain ⟨r0, r1, r2, r3, r4⟩ := Blk.cells5 R; have rf0 := R.froz 0; have rf1 := R.froz 1; have rf2 := R.froz 2; have rf3 := R.froz 3; have rf4 := R.froz 4)
      | (go_at_call 33; refine (HN.out _).mono ?_; rintro e w' ⟨rfl, hb⟩; clear a0 a1 a2 a3 a4 b0 b1 b2 b3 b4 r0 r1 r2 r3 r4 rf0 rf1 rf2 rf3 rf4; have A := Blk.bel A hb; have B := Blk.bel B hb; have R := Blk.bel R hb; have HB := Lib.hid (bthen HB.out hb); clear hb; obtain ⟨a0, a1, a2, a3, a4⟩ := Blk.cells5 A; obtain ⟨b0, b1, b2, b3, b4⟩ := Blk.cells5 B; obtain ⟨r0, r1, r2, r3, r4⟩ := Blk.cells5 R; have rf0 := R.froz 0; have rf1 := R.froz 1; have rf2 := R.froz 2; have rf3 := R.froz 3; have rf4 := R.froz 4))
    refine bodyPost_ret (v := .agg #[.bool b.no, .int .i64 b.lx, .int .i64 b.ly, .int .i64 b.hx, .int .i64 b.hy]) ?_ rfl ⟨rfl, below_set5 HB.out (by omega) _ _ _ _ _⟩
    obtain ⟨q0, q1, q2, q3, q4⟩ := Blk.cells5 (Blk.set5 R (x' := .bool b.no) (y' := .int .i64 b.lx) (z' := .int .i64 b.ly) (p' := .int .i64 b.hx) (q' := .int .i64 b.hy))
    simp [results, Tryd.results41, go_sem, q0, q1, q2, q3, q4]
  · have hu : (.agg #[.bool (MBox.union a b).no, .int .i64 (MBox.union a b).lx, .int .i64 (MBox.union a b).ly, .int .i64 (MBox.union a b).hx, .int .i64 (MBox.union a b).hy] : Value) = .agg #[.bool a.no, .int .i64 a.lx, .int .i64 a.ly, .int .i64 a.hx, .int .i64 a.hy] := by
      have hu2 : MBox.union a b = a := by unfold MBox.union; rw [ha, hb]; rfl
      rw [hu2]
    rw [hu]
    clear hu
    have A := ((Blk.new w #[.bool a.no, .int .i64 a.lx, .int .i64 a.ly, .int .i64 a.hx, .int .i64 a.hy] 52).alloc (.cells #[.bool b.no, .int .i64 b.lx, .int .i64 b.ly, .int .i64 b.hx, .int .i64 b.hy] 52)).alloc (.cells #[.bool false, .int .i64 0, .int .i64 0, .int .i64 0, .int .i64 0] 52)
    have B := (Blk.new_at (W := (w.alloc (.cells #[.bool a.no, .int .i64 a.lx, .int .i64 a.ly, .int .i64 a.hx, .int .i64 a.hy] 52))) (g := w.heap.size + 1) (by simp) #[.bool b.no, .int .i64 b.lx, .int .i64 b.ly, .int .i64 b.hx, .int .i64 b.hy] 52).alloc (.cells #[.bool false, .int .i64 0, .int .i64 0, .int .i64 0, .int .i64 0] 52)
    have R := Blk.new_at (W := ((w.alloc (.cells #[.bool a.no, .int .i64 a.lx, .int .i64 a.ly, .int .i64 a.hx, .int .i64 a.hy] 52)).alloc (.cells #[.bool b.no, .int .i64 b.lx, .int .i64 b.ly, .int .i64 b.hx, .int .i64 b.hy] 52))) (g := w.heap.size + 1 + 1) (by simp) #[.bool false, .int .i64 0, .int .i64 0, .int .i64 0, .int .i64 0] 52
    have HB : Hid (Below w.heap.size w (((w.alloc (.cells #[.bool a.no, .int .i64 a.lx, .int .i64 a.ly, .int .i64 a.hx, .int .i64 a.hy] 52)).alloc (.cells #[.bool b.no, .int .i64 b.lx, .int .i64 b.ly, .int .i64 b.hx, .int .i64 b.hy] 52)).alloc (.cells #[.bool false, .int .i64 0, .int .i64 0, .int .i64 0, .int .i64 0] 52))) := Lib.hid (by repeat (first | exact Below.refl _ _ | refine Below.drew ?_ | refine Below.alloc ?_ (by simp <;> omega) _))
    go_enter Tryd.func41, Tryd.ntmps41
    go_upto_region 1 with (fail)
    obtain ⟨W, hW⟩ : ∃ W, (((w.alloc (.cells #[.bool a.no, .int .i64 a.lx, .int .i64 a.ly, .int .i64 a.hx, .int .i64 a.hy] 52)).alloc (.cells #[.bool b.no, .int .i64 b.lx, .int .i64 b.ly, .int .i64 b.hx, .int .i64 b.hy] 52)).alloc (.cells #[.bool false, .int .i64 0, .int .i64 0, .int .i64 0, .int .i64 0] 52)) = W := ⟨_, rfl⟩
    rw [hW] at A B R HB ⊢
    clear hW
    obtain ⟨a0, a1, a2, a3, a4⟩ := Blk.cells5 A
    obtain ⟨b0, b1, b2, b3, b4⟩ := Blk.cells5 B
    obtain ⟨r0, r1, r2, r3, r4⟩ := Blk.cells5 R
    have rf0 := R.froz 0
    have rf1 := R.froz 1
    have rf2 := R.froz 2
    have rf3 := R.froz 3
    have rf4 := R.froz 4
    go_wp2_with (first
      | (go_at_call 74; refine (HH.out _ _).mono ?_; rintro e w' ⟨rfl, hb⟩; clear a0 a1 a2 a3 a4 b0 b1 b2 b3 b4 r0 r1 r2 r3 r4 rf0 rf1 rf2 rf3 rf4; have A := Blk.bel A hb; have B := Blk.bel B hb; have R := Blk.bel R hb; have HB := Lib.hid (bthen HB.out hb); clear hb; obtain ⟨a0, a1, a2, a3, a4⟩ := Blk.cells5 A; obtain ⟨b0, b1, b2, b3, b4⟩ := Blk.cells5 B; obtain ⟨r0, r1, r2, r3, r4⟩ := Blk.cells5 R; have rf0 := R.froz 0; have rf1 := R.froz 1; have rf2 := R.froz 2; have rf3 := R.froz 3; have rf4 := R.froz 4)
      | (go_at_call 33; refine (HN.out _).mono ?_; rintro e w' ⟨rfl, hb⟩; clear a0 a1 a2 a3 a4 b0 b1 b2 b3 b4 r0 r1 r2 r3 r4 rf0 rf1 rf2 rf3 rf4; have A := Blk.bel A hb; have B := Blk.bel B hb; have R := Blk.bel R hb; have HB := Lib.hid (bthen HB.out hb); clear hb; obtain ⟨a0, a1, a2, a3, a4⟩ := Blk.cells5 A; obtain ⟨b0, b1, b2, b3, b4⟩ := Blk.cells5 B; obtain ⟨r0, r1, r2, r3, r4⟩ := Blk.cells5 R; have rf0 := R.froz 0; have rf1 := R.froz 1; have rf2 := R.froz 2; have rf3 := R.froz 3; have rf4 := R.froz 4))
    refine bodyPost_ret (v := .agg #[.bool a.no, .int .i64 a.lx, .int .i64 a.ly, .int .i64 a.hx, .int .i64 a.hy]) ?_ rfl ⟨rfl, below_set5 HB.out (by omega) _ _ _ _ _⟩
    obtain ⟨q0, q1, q2, q3, q4⟩ := Blk.cells5 (Blk.set5 R (x' := .bool a.no) (y' := .int .i64 a.lx) (z' := .int .i64 a.ly) (p' := .int .i64 a.hx) (q' := .int .i64 a.hy))
    simp [results, Tryd.results41, go_sem, q0, q1, q2, q3, q4]
  · have hu : (.agg #[.bool (MBox.union a b).no, .int .i64 (MBox.union a b).lx, .int .i64 (MBox.union a b).ly, .int .i64 (MBox.union a b).hx, .int .i64 (MBox.union a b).hy] : Value) = .agg #[.bool false, .int .i64 (min a.lx b.lx), .int .i64 (min a.ly b.ly), .int .i64 (max a.hx b.hx), .int .i64 (max a.hy b.hy)] := by
      have hu2 : MBox.union a b = MBox.both a b := by unfold MBox.union; rw [ha, hb]; rfl
      rw [hu2]
      simp only [MBox.both, mn_min, mx_max]
    rw [hu]
    clear hu
    have A := ((Blk.new w #[.bool a.no, .int .i64 a.lx, .int .i64 a.ly, .int .i64 a.hx, .int .i64 a.hy] 52).alloc (.cells #[.bool b.no, .int .i64 b.lx, .int .i64 b.ly, .int .i64 b.hx, .int .i64 b.hy] 52)).alloc (.cells #[.bool false, .int .i64 0, .int .i64 0, .int .i64 0, .int .i64 0] 52)
    have B := (Blk.new_at (W := (w.alloc (.cells #[.bool a.no, .int .i64 a.lx, .int .i64 a.ly, .int .i64 a.hx, .int .i64 a.hy] 52))) (g := w.heap.size + 1) (by simp) #[.bool b.no, .int .i64 b.lx, .int .i64 b.ly, .int .i64 b.hx, .int .i64 b.hy] 52).alloc (.cells #[.bool false, .int .i64 0, .int .i64 0, .int .i64 0, .int .i64 0] 52)
    have R := Blk.new_at (W := ((w.alloc (.cells #[.bool a.no, .int .i64 a.lx, .int .i64 a.ly, .int .i64 a.hx, .int .i64 a.hy] 52)).alloc (.cells #[.bool b.no, .int .i64 b.lx, .int .i64 b.ly, .int .i64 b.hx, .int .i64 b.hy] 52))) (g := w.heap.size + 1 + 1) (by simp) #[.bool false, .int .i64 0, .int .i64 0, .int .i64 0, .int .i64 0] 52
    have HB : Hid (Below w.heap.size w (((w.alloc (.cells #[.bool a.no, .int .i64 a.lx, .int .i64 a.ly, .int .i64 a.hx, .int .i64 a.hy] 52)).alloc (.cells #[.bool b.no, .int .i64 b.lx, .int .i64 b.ly, .int .i64 b.hx, .int .i64 b.hy] 52)).alloc (.cells #[.bool false, .int .i64 0, .int .i64 0, .int .i64 0, .int .i64 0] 52))) := Lib.hid (by repeat (first | exact Below.refl _ _ | refine Below.drew ?_ | refine Below.alloc ?_ (by simp <;> omega) _))
    go_enter Tryd.func41, Tryd.ntmps41
    go_upto_region 1 with (fail)
    obtain ⟨W, hW⟩ : ∃ W, (((w.alloc (.cells #[.bool a.no, .int .i64 a.lx, .int .i64 a.ly, .int .i64 a.hx, .int .i64 a.hy] 52)).alloc (.cells #[.bool b.no, .int .i64 b.lx, .int .i64 b.ly, .int .i64 b.hx, .int .i64 b.hy] 52)).alloc (.cells #[.bool false, .int .i64 0, .int .i64 0, .int .i64 0, .int .i64 0] 52)) = W := ⟨_, rfl⟩
    rw [hW] at A B R HB ⊢
    clear hW
    obtain ⟨a0, a1, a2, a3, a4⟩ := Blk.cells5 A
    obtain ⟨b0, b1, b2, b3, b4⟩ := Blk.cells5 B
    obtain ⟨r0, r1, r2, r3, r4⟩ := Blk.cells5 R
    have rf0 := R.froz 0
    have rf1 := R.froz 1
    have rf2 := R.froz 2
    have rf3 := R.froz 3
    have rf4 := R.froz 4
    go_wp2_with (first
      | (go_at_call 74; refine (HH.out _ _).mono ?_; rintro e w' ⟨rfl, hb⟩; clear a0 a1 a2 a3 a4 b0 b1 b2 b3 b4 r0 r1 r2 r3 r4 rf0 rf1 rf2 rf3 rf4; have A := Blk.bel A hb; have B := Blk.bel B hb; have R := Blk.bel R hb; have HB := Lib.hid (bthen HB.out hb); clear hb; obtain ⟨a0, a1, a2, a3, a4⟩ := Blk.cells5 A; obtain ⟨b0, b1, b2, b3, b4⟩ := Blk.cells5 B; obtain ⟨r0, r1, r2, r3, r4⟩ := Blk.cells5 R; have rf0 := R.froz 0; have rf1 := R.froz 1; have rf2 := R.froz 2; have rf3 := R.froz 3; have rf4 := R.froz 4)
      | (go_at_call 33; refine (HN.out _).mono ?_; rintro e w' ⟨rfl, hb⟩; clear a0 a1 a2 a3 a4 b0 b1 b2 b3 b4 r0 r1 r2 r3 r4 rf0 rf1 rf2 rf3 rf4; have A := Blk.bel A hb; have B := Blk.bel B hb; have R := Blk.bel R hb; have HB := Lib.hid (bthen HB.out hb); clear hb; obtain ⟨a0, a1, a2, a3, a4⟩ := Blk.cells5 A; obtain ⟨b0, b1, b2, b3, b4⟩ := Blk.cells5 B; obtain ⟨r0, r1, r2, r3, r4⟩ := Blk.cells5 R; have rf0 := R.froz 0; have rf1 := R.froz 1; have rf2 := R.froz 2; have rf3 := R.froz 3; have rf4 := R.froz 4))
    refine bodyPost_ret (v := .agg #[.bool false, .int .i64 (min a.lx b.lx), .int .i64 (min a.ly b.ly), .int .i64 (max a.hx b.hx), .int .i64 (max a.hy b.hy)]) ?_ rfl ⟨rfl, below_set5 HB.out (by omega) _ _ _ _ _⟩
    obtain ⟨q0, q1, q2, q3, q4⟩ := Blk.cells5 (Blk.set5 R (x' := .bool false) (y' := .int .i64 (min a.lx b.lx)) (z' := .int .i64 (min a.ly b.ly)) (p' := .int .i64 (max a.hx b.hx)) (q' := .int .i64 (max a.hy b.hy)))
    simp [results, Tryd.results41, go_sem, q0, q1, q2, q3, q4]
set_option maxHeartbeats 2000000 in
set_option maxRecDepth 100000 in
theorem refUnion_calls (a b : Bx) (w : World) : Calls Tryd.prog 50 #[.agg #[.bool a.no, .int .i64 a.lx, .int .i64 a.ly, .int .i64 a.hx, .int .i64 a.hy], .agg #[.bool b.no, .int .i64 b.lx, .int .i64 b.ly, .int .i64 b.hx, .int .i64 b.hy]] w fun e w' => e = .returned (.agg #[.bool (MBox.union a b).no, .int .i64 (MBox.union a b).lx, .int .i64 (MBox.union a b).ly, .int .i64 (MBox.union a b).hx, .int .i64 (MBox.union a b).hy]) ∧ Bel w w' := by
  have HH := Lib.hid refHas_calls
  have HL := Lib.hid least_calls
  have HM := Lib.hid most_calls
  cases ha : MBox.has a <;> cases hb : MBox.has b
  · have hu : (.agg #[.bool (MBox.union a b).no, .int .i64 (MBox.union a b).lx, .int .i64 (MBox.union a b).ly, .int .i64 (MBox.union a b).hx, .int .i64 (MBox.union a b).hy] : Value) = .agg #[.bool true, .int .i64 0, .int .i64 0, .int .i64 0, .int .i64 0] := by
      have hu2 : MBox.union a b = MBox.noneB := by unfold MBox.union; rw [ha, hb]; rfl
      rw [hu2]
      simp only [MBox.noneB]
    rw [hu]
    clear hu
    have A := ((Blk.new w #[.bool a.no, .int .i64 a.lx, .int .i64 a.ly, .int .i64 a.hx, .int .i64 a.hy] 52).alloc (.cells #[.bool b.no, .int .i64 b.lx, .int .i64 b.ly, .int .i64 b.hx, .int .i64 b.hy] 52)).alloc (.cells #[.bool false, .int .i64 0, .int .i64 0, .int .i64 0, .int .i64 0] 52)
    have B := (Blk.new_at (W := (w.alloc (.cells #[.bool a.no, .int .i64 a.lx, .int .i64 a.ly, .int .i64 a.hx, .int .i64 a.hy] 52))) (g := w.heap.size + 1) (by simp) #[.bool b.no, .int .i64 b.lx, .int .i64 b.ly, .int .i64 b.hx, .int .i64 b.hy] 52).alloc (.cells #[.bool false, .int .i64 0, .int .i64 0, .int .i64 0, .int .i64 0] 52)
    have R := Blk.new_at (W := ((w.alloc (.cells #[.bool a.no, .int .i64 a.lx, .int .i64 a.ly, .int .i64 a.hx, .int .i64 a.hy] 52)).alloc (.cells #[.bool b.no, .int .i64 b.lx, .int .i64 b.ly, .int .i64 b.hx, .int .i64 b.hy] 52))) (g := w.heap.size + 1 + 1) (by simp) #[.bool false, .int .i64 0, .int .i64 0, .int .i64 0, .int .i64 0] 52
    have HB : Hid (Below w.heap.size w (((w.alloc (.cells #[.bool a.no, .int .i64 a.lx, .int .i64 a.ly, .int .i64 a.hx, .int .i64 a.hy] 52)).alloc (.cells #[.bool b.no, .int .i64 b.lx, .int .i64 b.ly, .int .i64 b.hx, .int .i64 b.hy] 52)).alloc (.cells #[.bool false, .int .i64 0, .int .i64 0, .int .i64 0, .int .i64 0] 52))) := Lib.hid (by repeat (first | exact Below.refl _ _ | refine Below.drew ?_ | refine Below.alloc ?_ (by simp <;> omega) _))
    go_enter Tryd.func50, Tryd.ntmps50
    go_upto_region 1 with (fail)
    obtain ⟨W, hW⟩ : ∃ W, (((w.alloc (.cells #[.bool a.no, .int .i64 a.lx, .int .i64 a.ly, .int .i64 a.hx, .int .i64 a.hy] 52)).alloc (.cells #[.bool b.no, .int .i64 b.lx, .int .i64 b.ly, .int .i64 b.hx, .int .i64 b.hy] 52)).alloc (.cells #[.bool false, .int .i64 0, .int .i64 0, .int .i64 0, .int .i64 0] 52)) = W := ⟨_, rfl⟩
    rw [hW] at A B R HB ⊢
    clear hW
    obtain ⟨a0, a1, a2, a3, a4⟩ := Blk.cells5 A
    obtain ⟨b0, b1, b2, b3, b4⟩ := Blk.cells5 B
    obtain ⟨r0, r1, r2, r3, r4⟩ := Blk.cells5 R
    have rf0 := R.froz 0
    have rf1 := R.froz 1
    have rf2 := R.froz 2
    have rf3 := R.froz 3
    have rf4 := R.froz 4
    go_wp2_with (first
      | (go_at_call 80; refine (HH.out _ _).mono ?_; rintro e w' ⟨rfl, hb⟩; clear a0 a1 a2 a3 a4 b0 b1 b2 b3 b4 r0 r1 r2 r3 r4 rf0 rf1 rf2 rf3 rf4; have A := Blk.bel A hb; have B := Blk.bel B hb; have R := Blk.bel R hb; have HB := Lib.hid (bthen HB.out hb); clear hb; obtain ⟨a0, a1, a2, a3, a4⟩ := Blk.cells5 A; obtain ⟨b0, b1, b2, b3, b4⟩ := Blk.cells5 B; obtain ⟨r0, r1, r2, r3, r4⟩ := Blk.cells5 R; have rf0 := R.froz 0; have rf1 := R.froz 1; have rf2 := R.froz 2; have rf3 := R.froz 3; have rf4 := R.froz 4))
    refine bodyPost_ret (v := .agg #[.bool true, .int .i64 0, .int .i64 0, .int .i64 0, .int .i64 0]) ?_ rfl ⟨rfl, below_set5 HB.out (by omega) _ _ _ _ _⟩
    obtain ⟨q0, q1, q2, q3, q4⟩ := Blk.cells5 (Blk.set5 R (x' := .bool true) (y' := .int .i64 0) (z' := .int .i64 0) (p' := .int .i64 0) (q' := .int .i64 0))
    simp [results, Tryd.results50, go_sem, q0, q1, q2, q3, q4]
  · have hu : (.agg #[.bool (MBox.union a b).no, .int .i64 (MBox.union a b).lx, .int .i64 (MBox.union a b).ly, .int .i64 (MBox.union a b).hx, .int .i64 (MBox.union a b).hy] : Value) = .agg #[.bool b.no, .int .i64 b.lx, .int .i64 b.ly, .int .i64 b.hx, .int .i64 b.hy] := by
      have hu2 : MBox.union a b = b := by unfold MBox.union; rw [ha, hb]; rfl
      rw [hu2]
    rw [hu]
    clear hu
    have A := ((Blk.new w #[.bool a.no, .int .i64 a.lx, .int .i64 a.ly, .int .i64 a.hx, .int .i64 a.hy] 52).alloc (.cells #[.bool b.no, .int .i64 b.lx, .int .i64 b.ly, .int .i64 b.hx, .int .i64 b.hy] 52)).alloc (.cells #[.bool false, .int .i64 0, .int .i64 0, .int .i64 0, .int .i64 0] 52)
    have B := (Blk.new_at (W := (w.alloc (.cells #[.bool a.no, .int .i64 a.lx, .int .i64 a.ly, .int .i64 a.hx, .int .i64 a.hy] 52))) (g := w.heap.size + 1) (by simp) #[.bool b.no, .int .i64 b.lx, .int .i64 b.ly, .int .i64 b.hx, .int .i64 b.hy] 52).alloc (.cells #[.bool false, .int .i64 0, .int .i64 0, .int .i64 0, .int .i64 0] 52)
    have R := Blk.new_at (W := ((w.alloc (.cells #[.bool a.no, .int .i64 a.lx, .int .i64 a.ly, .int .i64 a.hx, .int .i64 a.hy] 52)).alloc (.cells #[.bool b.no, .int .i64 b.lx, .int .i64 b.ly, .int .i64 b.hx, .int .i64 b.hy] 52))) (g := w.heap.size + 1 + 1) (by simp) #[.bool false, .int .i64 0, .int .i64 0, .int .i64 0, .int .i64 0] 52
    have HB : Hid (Below w.heap.size w (((w.alloc (.cells #[.bool a.no, .int .i64 a.lx, .int .i64 a.ly, .int .i64 a.hx, .int .i64 a.hy] 52)).alloc (.cells #[.bool b.no, .int .i64 b.lx, .int .i64 b.ly, .int .i64 b.hx, .int .i64 b.hy] 52)).alloc (.cells #[.bool false, .int .i64 0, .int .i64 0, .int .i64 0, .int .i64 0] 52))) := Lib.hid (by repeat (first | exact Below.refl _ _ | refine Below.drew ?_ | refine Below.alloc ?_ (by simp <;> omega) _))
    go_enter Tryd.func50, Tryd.ntmps50
    go_upto_region 1 with (fail)
    obtain ⟨W, hW⟩ : ∃ W, (((w.alloc (.cells #[.bool a.no, .int .i64 a.lx, .int .i64 a.ly, .int .i64 a.hx, .int .i64 a.hy] 52)).alloc (.cells #[.bool b.no, .int .i64 b.lx, .int .i64 b.ly, .int .i64 b.hx, .int .i64 b.hy] 52)).alloc (.cells #[.bool false, .int .i64 0, .int .i64 0, .int .i64 0, .int .i64 0] 52)) = W := ⟨_, rfl⟩
    rw [hW] at A B R HB ⊢
    clear hW
    obtain ⟨a0, a1, a2, a3, a4⟩ := Blk.cells5 A
    obtain ⟨b0, b1, b2, b3, b4⟩ := Blk.cells5 B
    obtain ⟨r0, r1, r2, r3, r4⟩ := Blk.cells5 R
    have rf0 := R.froz 0
    have rf1 := R.froz 1
    have rf2 := R.froz 2
    have rf3 := R.froz 3
    have rf4 := R.froz 4
    go_wp2_with (first
      | (go_at_call 80; refine (HH.out _ _).mono ?_; rintro e w' ⟨rfl, hb⟩; clear a0 a1 a2 a3 a4 b0 b1 b2 b3 b4 r0 r1 r2 r3 r4 rf0 rf1 rf2 rf3 rf4; have A := Blk.bel A hb; have B := Blk.bel B hb; have R := Blk.bel R hb; have HB := Lib.hid (bthen HB.out hb); clear hb; obtain ⟨a0, a1, a2, a3, a4⟩ := Blk.cells5 A; obtain ⟨b0, b1, b2, b3, b4⟩ := Blk.cells5 B; obtain ⟨r0, r1, r2, r3, r4⟩ := Blk.cells5 R; have rf0 := R.froz 0; have rf1 := R.froz 1; have rf2 := R.froz 2; have rf3 := R.froz 3; have rf4 := R.froz 4))
    refine bodyPost_ret (v := .agg #[.bool b.no, .int .i64 b.lx, .int .i64 b.ly, .int .i64 b.hx, .int .i64 b.hy]) ?_ rfl ⟨rfl, below_set5 HB.out (by omega) _ _ _ _ _⟩
    obtain ⟨q0, q1, q2, q3, q4⟩ := Blk.cells5 (Blk.set5 R (x' := .bool b.no) (y' := .int .i64 b.lx) (z' := .int .i64 b.ly) (p' := .int .i64 b.hx) (q' := .int .i64 b.hy))
    simp [results, Tryd.results50, go_sem, q0, q1, q2, q3, q4]
  · have hu : (.agg #[.bool (MBox.union a b).no, .int .i64 (MBox.union a b).lx, .int .i64 (MBox.union a b).ly, .int .i64 (MBox.union a b).hx, .int .i64 (MBox.union a b).hy] : Value) = .agg #[.bool a.no, .int .i64 a.lx, .int .i64 a.ly, .int .i64 a.hx, .int .i64 a.hy] := by
      have hu2 : MBox.union a b = a := by unfold MBox.union; rw [ha, hb]; rfl
      rw [hu2]
    rw [hu]
    clear hu
    have A := ((Blk.new w #[.bool a.no, .int .i64 a.lx, .int .i64 a.ly, .int .i64 a.hx, .int .i64 a.hy] 52).alloc (.cells #[.bool b.no, .int .i64 b.lx, .int .i64 b.ly, .int .i64 b.hx, .int .i64 b.hy] 52)).alloc (.cells #[.bool false, .int .i64 0, .int .i64 0, .int .i64 0, .int .i64 0] 52)
    have B := (Blk.new_at (W := (w.alloc (.cells #[.bool a.no, .int .i64 a.lx, .int .i64 a.ly, .int .i64 a.hx, .int .i64 a.hy] 52))) (g := w.heap.size + 1) (by simp) #[.bool b.no, .int .i64 b.lx, .int .i64 b.ly, .int .i64 b.hx, .int .i64 b.hy] 52).alloc (.cells #[.bool false, .int .i64 0, .int .i64 0, .int .i64 0, .int .i64 0] 52)
    have R := Blk.new_at (W := ((w.alloc (.cells #[.bool a.no, .int .i64 a.lx, .int .i64 a.ly, .int .i64 a.hx, .int .i64 a.hy] 52)).alloc (.cells #[.bool b.no, .int .i64 b.lx, .int .i64 b.ly, .int .i64 b.hx, .int .i64 b.hy] 52))) (g := w.heap.size + 1 + 1) (by simp) #[.bool false, .int .i64 0, .int .i64 0, .int .i64 0, .int .i64 0] 52
    have HB : Hid (Below w.heap.size w (((w.alloc (.cells #[.bool a.no, .int .i64 a.lx, .int .i64 a.ly, .int .i64 a.hx, .int .i64 a.hy] 52)).alloc (.cells #[.bool b.no, .int .i64 b.lx, .int .i64 b.ly, .int .i64 b.hx, .int .i64 b.hy] 52)).alloc (.cells #[.bool false, .int .i64 0, .int .i64 0, .int .i64 0, .int .i64 0] 52))) := Lib.hid (by repeat (first | exact Below.refl _ _ | refine Below.drew ?_ | refine Below.alloc ?_ (by simp <;> omega) _))
    go_enter Tryd.func50, Tryd.ntmps50
    go_upto_region 1 with (fail)
    obtain ⟨W, hW⟩ : ∃ W, (((w.alloc (.cells #[.bool a.no, .int .i64 a.lx, .int .i64 a.ly, .int .i64 a.hx, .int .i64 a.hy] 52)).alloc (.cells #[.bool b.no, .int .i64 b.lx, .int .i64 b.ly, .int .i64 b.hx, .int .i64 b.hy] 52)).alloc (.cells #[.bool false, .int .i64 0, .int .i64 0, .int .i64 0, .int .i64 0] 52)) = W := ⟨_, rfl⟩
    rw [hW] at A B R HB ⊢
    clear hW
    obtain ⟨a0, a1, a2, a3, a4⟩ := Blk.cells5 A
    obtain ⟨b0, b1, b2, b3, b4⟩ := Blk.cells5 B
    obtain ⟨r0, r1, r2, r3, r4⟩ := Blk.cells5 R
    have rf0 := R.froz 0
    have rf1 := R.froz 1
    have rf2 := R.froz 2
    have rf3 := R.froz 3
    have rf4 := R.froz 4
    go_wp2_with (first
      | (go_at_call 80; refine (HH.out _ _).mono ?_; rintro e w' ⟨rfl, hb⟩; clear a0 a1 a2 a3 a4 b0 b1 b2 b3 b4 r0 r1 r2 r3 r4 rf0 rf1 rf2 rf3 rf4; have A := Blk.bel A hb; have B := Blk.bel B hb; have R := Blk.bel R hb; have HB := Lib.hid (bthen HB.out hb); clear hb; obtain ⟨a0, a1, a2, a3, a4⟩ := Blk.cells5 A; obtain ⟨b0, b1, b2, b3, b4⟩ := Blk.cells5 B; obtain ⟨r0, r1, r2, r3, r4⟩ := Blk.cells5 R; have rf0 := R.froz 0; have rf1 := R.froz 1; have rf2 := R.froz 2; have rf3 := R.froz 3; have rf4 := R.froz 4))
    refine bodyPost_ret (v := .agg #[.bool a.no, .int .i64 a.lx, .int .i64 a.ly, .int .i64 a.hx, .int .i64 a.hy]) ?_ rfl ⟨rfl, below_set5 HB.out (by omega) _ _ _ _ _⟩
    obtain ⟨q0, q1, q2, q3, q4⟩ := Blk.cells5 (Blk.set5 R (x' := .bool a.no) (y' := .int .i64 a.lx) (z' := .int .i64 a.ly) (p' := .int .i64 a.hx) (q' := .int .i64 a.hy))
    simp [results, Tryd.results50, go_sem, q0, q1, q2, q3, q4]
  · have hu : (.agg #[.bool (MBox.union a b).no, .int .i64 (MBox.union a b).lx, .int .i64 (MBox.union a b).ly, .int .i64 (MBox.union a b).hx, .int .i64 (MBox.union a b).hy] : Value) = .agg #[.bool false, .int .i64 (MBox.mn a.lx b.lx), .int .i64 (MBox.mn a.ly b.ly), .int .i64 (MBox.mx a.hx b.hx), .int .i64 (MBox.mx a.hy b.hy)] := by
      have hu2 : MBox.union a b = MBox.both a b := by unfold MBox.union; rw [ha, hb]; rfl
      rw [hu2]
      simp only [MBox.both]
    rw [hu]
    clear hu
    have A := ((Blk.new w #[.bool a.no, .int .i64 a.lx, .int .i64 a.ly, .int .i64 a.hx, .int .i64 a.hy] 52).alloc (.cells #[.bool b.no, .int .i64 b.lx, .int .i64 b.ly, .int .i64 b.hx, .int .i64 b.hy] 52)).alloc (.cells #[.bool false, .int .i64 0, .int .i64 0, .int .i64 0, .int .i64 0] 52)
    have B := (Blk.new_at (W := (w.alloc (.cells #[.bool a.no, .int .i64 a.lx, .int .i64 a.ly, .int .i64 a.hx, .int .i64 a.hy] 52))) (g := w.heap.size + 1) (by simp) #[.bool b.no, .int .i64 b.lx, .int .i64 b.ly, .int .i64 b.hx, .int .i64 b.hy] 52).alloc (.cells #[.bool false, .int .i64 0, .int .i64 0, .int .i64 0, .int .i64 0] 52)
    have R := Blk.new_at (W := ((w.alloc (.cells #[.bool a.no, .int .i64 a.lx, .int .i64 a.ly, .int .i64 a.hx, .int .i64 a.hy] 52)).alloc (.cells #[.bool b.no, .int .i64 b.lx, .int .i64 b.ly, .int .i64 b.hx, .int .i64 b.hy] 52))) (g := w.heap.size + 1 + 1) (by simp) #[.bool false, .int .i64 0, .int .i64 0, .int .i64 0, .int .i64 0] 52
    have HB : Hid (Below w.heap.size w (((w.alloc (.cells #[.bool a.no, .int .i64 a.lx, .int .i64 a.ly, .int .i64 a.hx, .int .i64 a.hy] 52)).alloc (.cells #[.bool b.no, .int .i64 b.lx, .int .i64 b.ly, .int .i64 b.hx, .int .i64 b.hy] 52)).alloc (.cells #[.bool false, .int .i64 0, .int .i64 0, .int .i64 0, .int .i64 0] 52))) := Lib.hid (by repeat (first | exact Below.refl _ _ | refine Below.drew ?_ | refine Below.alloc ?_ (by simp <;> omega) _))
    go_enter Tryd.func50, Tryd.ntmps50
    go_upto_region 1 with (fail)
    obtain ⟨W, hW⟩ : ∃ W, (((w.alloc (.cells #[.bool a.no, .int .i64 a.lx, .int .i64 a.ly, .int .i64 a.hx, .int .i64 a.hy] 52)).alloc (.cells #[.bool b.no, .int .i64 b.lx, .int .i64 b.ly, .int .i64 b.hx, .int .i64 b.hy] 52)).alloc (.cells #[.bool false, .int .i64 0, .int .i64 0, .int .i64 0, .int .i64 0] 52)) = W := ⟨_, rfl⟩
    rw [hW] at A B R HB ⊢
    clear hW
    obtain ⟨a0, a1, a2, a3, a4⟩ := Blk.cells5 A
    obtain ⟨b0, b1, b2, b3, b4⟩ := Blk.cells5 B
    obtain ⟨r0, r1, r2, r3, r4⟩ := Blk.cells5 R
    have rf0 := R.froz 0
    have rf1 := R.froz 1
    have rf2 := R.froz 2
    have rf3 := R.froz 3
    have rf4 := R.froz 4
    go_wp2_with (first
      | (go_at_call 80; refine (HH.out _ _).mono ?_; rintro e w' ⟨rfl, hb⟩; clear a0 a1 a2 a3 a4 b0 b1 b2 b3 b4 r0 r1 r2 r3 r4 rf0 rf1 rf2 rf3 rf4; have A := Blk.bel A hb; have B := Blk.bel B hb; have R := Blk.bel R hb; have HB := Lib.hid (bthen HB.out hb); clear hb; obtain ⟨a0, a1, a2, a3, a4⟩ := Blk.cells5 A; obtain ⟨b0, b1, b2, b3, b4⟩ := Blk.cells5 B; obtain ⟨r0, r1, r2, r3, r4⟩ := Blk.cells5 R; have rf0 := R.froz 0; have rf1 := R.froz 1; have rf2 := R.froz 2; have rf3 := R.froz 3; have rf4 := R.froz 4))
    have hS0 := And.intro a0 (And.intro a1 (And.intro a2 (And.intro a3 (And.intro a4 (And.intro b0 (And.intro b1 (And.intro b2 (And.intro b3 b4))))))))
    go_region_held3 (fun w' => w'.cell? ⟨w.heap.size, 0, none⟩ = some (.bool a.no) ∧ w'.cell? ⟨w.heap.size, 1, none⟩ = some (.int .i64 a.lx) ∧ w'.cell? ⟨w.heap.size, 2, none⟩ = some (.int .i64 a.ly) ∧ w'.cell? ⟨w.heap.size, 3, none⟩ = some (.int .i64 a.hx) ∧ w'.cell? ⟨w.heap.size, 4, none⟩ = some (.int .i64 a.hy) ∧ w'.cell? ⟨w.heap.size + 1, 0, none⟩ = some (.bool b.no) ∧ w'.cell? ⟨w.heap.size + 1, 1, none⟩ = some (.int .i64 b.lx) ∧ w'.cell? ⟨w.heap.size + 1, 2, none⟩ = some (.int .i64 b.ly) ∧ w'.cell? ⟨w.heap.size + 1, 3, none⟩ = some (.int .i64 b.hx) ∧ w'.cell? ⟨w.heap.size + 1, 4, none⟩ = some (.int .i64 b.hy)) (first | with_reducible exact kbb (Bel.drew _) hS0 | with_reducible assumption | with_reducible exact kbb (Bel.drew _) (kbb_set5 (by omega) (by omega) hS0))
      (first
      | (go_at_call 81; refine (HL.out _ _ _).mono ?_; rintro e w' ⟨rfl, rfl⟩)
      | (go_at_call 82; refine (HM.out _ _ _).mono ?_; rintro e w' ⟨rfl, rfl⟩))
    go_wp2
    refine bodyPost_ret (v := .agg #[.bool false, .int .i64 (MBox.mn a.lx b.lx), .int .i64 (MBox.mn a.ly b.ly), .int .i64 (MBox.mx a.hx b.hx), .int .i64 (MBox.mx a.hy b.hy)]) ?_ rfl ⟨rfl, (below_set5 HB.out (by omega) _ _ _ _ _).drew⟩
    obtain ⟨q0, q1, q2, q3, q4⟩ := Blk.cells5 (Blk.drew (Blk.set5 R (x' := .bool false) (y' := .int .i64 (MBox.mn a.lx b.lx)) (z' := .int .i64 (MBox.mn a.ly b.ly)) (p' := .int .i64 (MBox.mx a.hx b.hx)) (q' := .int .i64 (MBox.mx a.hy b.hy))))
    simp [results, Tryd.results50, go_sem, q0, q1, q2, q3, q4]

end Go.Proofs.YtakkifedcbhgfaaDoor.K
