/- Texts laid as one: Boxes: do they meet. · Boxes: areas. -/
import Derived.Test.YtakkifedcbhgfaaDoorKB
import Derived.Handy
import Derived.Test.YtakkifedcbhgfaaDoorWBox3
namespace Go.Proofs.YtakkifedcbhgfaaDoor.K
open Go Go.RowKit Go.Proofs.YtakkifedcbhgfaaDoorW.PrintWords Go.Proofs.YtakkifedcbhgfaaDoorW.PrintLast Go.Proofs.YtakkifedcbhgfaaDoorW.PrintMore
set_option linter.unusedVariables false
set_option linter.unusedSimpArgs false
open Go.Proofs.YtakkifedcbhgfaaDoor.MWide (W64 U192 addV subV addOk subOk cmpV)
open Go.Proofs.YtakkifedcbhgfaaDoor.MBox (Bx)
attribute [local go_sem] undef
theorem below_drewN {B : Nat} {a w : World} (h : Below B a w) (n : Nat) : Below B a (w.drewN n) := ⟨h.os, h.tape, h.output, h.size, h.block⟩
set_option maxRecDepth 100000 in
theorem sidex (p q r s : Int) (w : World) : (Instr.index 102 (.agg #[.int .i64 p, .int .i64 q, .int .i64 r, .int .i64 s]) (.int .i64 0)).run Tryd.prog w = .ok (.agg #[.int .i64 p, .int .i64 q]) w := by
  simp [Instr.index, go_sem, run_underlying Tryd.underlying102, Tryd.underlying102]
set_option maxRecDepth 100000 in
theorem sidey (p q r s : Int) (w : World) : (Instr.index 102 (.agg #[.int .i64 p, .int .i64 q, .int .i64 r, .int .i64 s]) (.int .i64 1)).run Tryd.prog w = .ok (.agg #[.int .i64 r, .int .i64 s]) w := by
  simp [Instr.index, go_sem, run_underlying Tryd.underlying102, Tryd.underlying102]
set_option maxHeartbeats 2000000 in
set_option maxRecDepth 100000 in
theorem meets_calls (a b : Bx) (w : World) : Calls Tryd.prog 34 #[.agg #[.bool a.no, .int .i64 a.lx, .int .i64 a.ly, .int .i64 a.hx, .int .i64 a.hy], .agg #[.bool b.no, .int .i64 b.lx, .int .i64 b.ly, .int .i64 b.hx, .int .i64 b.hy]] w fun e w' => e = .returned (.bool (MBox.meets a b)) ∧ Bel w w' := by
  have HH := Lib.hid has_is
  have HS := Lib.hid sides_calls
  cases hA : MBox.has a with
  | false =>
    have hm : MBox.meets a b = false := by unfold MBox.meets; rw [hA]; rfl
    rw [hm]
    clear hm
    have A := (Blk.new w #[.bool a.no, .int .i64 a.lx, .int .i64 a.ly, .int .i64 a.hx, .int .i64 a.hy] 52).alloc (.cells #[.bool b.no, .int .i64 b.lx, .int .i64 b.ly, .int .i64 b.hx, .int .i64 b.hy] 52)
    have B := Blk.new_at (W := (w.alloc (.cells #[.bool a.no, .int .i64 a.lx, .int .i64 a.ly, .int .i64 a.hx, .int .i64 a.hy] 52))) (g := w.heap.size + 1) (by simp) #[.bool b.no, .int .i64 b.lx, .int .i64 b.ly, .int .i64 b.hx, .int .i64 b.hy] 52
    have HB : Hid (Below w.heap.size w ((w.alloc (.cells #[.bool a.no, .int .i64 a.lx, .int .i64 a.ly, .int .i64 a.hx, .int .i64 a.hy] 52)).alloc (.cells #[.bool b.no, .int .i64 b.lx, .int .i64 b.ly, .int .i64 b.hx, .int .i64 b.hy] 52))) := Lib.hid (by repeat (first | exact Below.refl _ _ | refine Below.drew ?_ | refine Below.alloc ?_ (by simp <;> omega) _))
    go_enter Tryd.func34, Tryd.ntmps34
    go_upto_region 1 with (fail)
    obtain ⟨W, hW⟩ : ∃ W, ((w.alloc (.cells #[.bool a.no, .int .i64 a.lx, .int .i64 a.ly, .int .i64 a.hx, .int .i64 a.hy] 52)).alloc (.cells #[.bool b.no, .int .i64 b.lx, .int .i64 b.ly, .int .i64 b.hx, .int .i64 b.hy] 52)) = W := ⟨_, rfl⟩
    rw [hW] at A B HB ⊢
    clear hW
    obtain ⟨a0, a1, a2, a3, a4⟩ := Blk.cells5 A
    obtain ⟨b0, b1, b2, b3, b4⟩ := Blk.cells5 B
    go_wp2_with (go_at_call 74; refine (HH.out _ _ _ (by assumption)).mono ?_; rintro e w' ⟨rfl, hb⟩; clear a0 a1 a2 a3 a4 b0 b1 b2 b3 b4; have A := Blk.bel A hb; have B := Blk.bel B hb; have HB := Lib.hid (bthen HB.out hb); clear hb; obtain ⟨a0, a1, a2, a3, a4⟩ := Blk.cells5 A; obtain ⟨b0, b1, b2, b3, b4⟩ := Blk.cells5 B)
    go_ret
    exact ⟨by simp, HB.out⟩
  | true =>
    cases hB : MBox.has b with
    | false =>
      have hm : MBox.meets a b = false := by unfold MBox.meets; rw [hA, hB]; rfl
      rw [hm]
      clear hm
      have A := (Blk.new w #[.bool a.no, .int .i64 a.lx, .int .i64 a.ly, .int .i64 a.hx, .int .i64 a.hy] 52).alloc (.cells #[.bool b.no, .int .i64 b.lx, .int .i64 b.ly, .int .i64 b.hx, .int .i64 b.hy] 52)
      have B := Blk.new_at (W := (w.alloc (.cells #[.bool a.no, .int .i64 a.lx, .int .i64 a.ly, .int .i64 a.hx, .int .i64 a.hy] 52))) (g := w.heap.size + 1) (by simp) #[.bool b.no, .int .i64 b.lx, .int .i64 b.ly, .int .i64 b.hx, .int .i64 b.hy] 52
      have HB : Hid (Below w.heap.size w ((w.alloc (.cells #[.bool a.no, .int .i64 a.lx, .int .i64 a.ly, .int .i64 a.hx, .int .i64 a.hy] 52)).alloc (.cells #[.bool b.no, .int .i64 b.lx, .int .i64 b.ly, .int .i64 b.hx, .int .i64 b.hy] 52))) := Lib.hid (by repeat (first | exact Below.refl _ _ | refine Below.drew ?_ | refine Below.alloc ?_ (by simp <;> omega) _))
      go_enter Tryd.func34, Tryd.ntmps34
      go_upto_region 1 with (fail)
      obtain ⟨W, hW⟩ : ∃ W, ((w.alloc (.cells #[.bool a.no, .int .i64 a.lx, .int .i64 a.ly, .int .i64 a.hx, .int .i64 a.hy] 52)).alloc (.cells #[.bool b.no, .int .i64 b.lx, .int .i64 b.ly, .int .i64 b.hx, .int .i64 b.hy] 52)) = W := ⟨_, rfl⟩
      rw [hW] at A B HB ⊢
      clear hW
      obtain ⟨a0, a1, a2, a3, a4⟩ := Blk.cells5 A
      obtain ⟨b0, b1, b2, b3, b4⟩ := Blk.cells5 B
      go_wp2_with (go_at_call 74; refine (HH.out _ _ _ (by assumption)).mono ?_; rintro e w' ⟨rfl, hb⟩; clear a0 a1 a2 a3 a4 b0 b1 b2 b3 b4; have A := Blk.bel A hb; have B := Blk.bel B hb; have HB := Lib.hid (bthen HB.out hb); clear hb; obtain ⟨a0, a1, a2, a3, a4⟩ := Blk.cells5 A; obtain ⟨b0, b1, b2, b3, b4⟩ := Blk.cells5 B)
      go_ret
      exact ⟨by simp, HB.out⟩
    | true =>
      have hm := MBox.meets_sides a b hA hB
      rw [mn_min, mn_min, mx_max, mx_max] at hm
      rw [hm]
      clear hm
      have A := (Blk.new w #[.bool a.no, .int .i64 a.lx, .int .i64 a.ly, .int .i64 a.hx, .int .i64 a.hy] 52).alloc (.cells #[.bool b.no, .int .i64 b.lx, .int .i64 b.ly, .int .i64 b.hx, .int .i64 b.hy] 52)
      have B := Blk.new_at (W := (w.alloc (.cells #[.bool a.no, .int .i64 a.lx, .int .i64 a.ly, .int .i64 a.hx, .int .i64 a.hy] 52))) (g := w.heap.size + 1) (by simp) #[.bool b.no, .int .i64 b.lx, .int .i64 b.ly, .int .i64 b.hx, .int .i64 b.hy] 52
      have HB : Hid (Below w.heap.size w ((w.alloc (.cells #[.bool a.no, .int .i64 a.lx, .int .i64 a.ly, .int .i64 a.hx, .int .i64 a.hy] 52)).alloc (.cells #[.bool b.no, .int .i64 b.lx, .int .i64 b.ly, .int .i64 b.hx, .int .i64 b.hy] 52))) := Lib.hid (by repeat (first | exact Below.refl _ _ | refine Below.drew ?_ | refine Below.alloc ?_ (by simp <;> omega) _))
      go_enter Tryd.func34, Tryd.ntmps34
      go_upto_region 1 with (fail)
      obtain ⟨W, hW⟩ : ∃ W, ((w.alloc (.cells #[.bool a.no, .int .i64 a.lx, .int .i64 a.ly, .int .i64 a.hx, .int .i64 a.hy] 52)).alloc (.cells #[.bool b.no, .int .i64 b.lx, .int .i64 b.ly, .int .i64 b.hx, .int .i64 b.hy] 52)) = W := ⟨_, rfl⟩
      rw [hW] at A B HB ⊢
      clear hW
      obtain ⟨a0, a1, a2, a3, a4⟩ := Blk.cells5 A
      obtain ⟨b0, b1, b2, b3, b4⟩ := Blk.cells5 B
      go_upto_region 3 with (go_at_call 74; refine (HH.out _ _ _ (by assumption)).mono ?_; rintro e w' ⟨rfl, hb⟩; clear a0 a1 a2 a3 a4 b0 b1 b2 b3 b4; have A := Blk.bel A hb; have B := Blk.bel B hb; have HB := Lib.hid (bthen HB.out hb); clear hb; obtain ⟨a0, a1, a2, a3, a4⟩ := Blk.cells5 A; obtain ⟨b0, b1, b2, b3, b4⟩ := Blk.cells5 B)
      go_wp2_with fail
      refine (HS.out _ _).mono ?_
      rintro e w1 ⟨rfl, hb1⟩
      have A1 := Blk.bel A hb1
      have B1 := Blk.bel B hb1
      have HB1 := Lib.hid (bthen HB.out hb1)
      clear A B HB hb1 a0 a1 a2 a3 a4 b0 b1 b2 b3 b4
      go_upto_region 4 with (fail)
      have S1 := Blk.new w1 #[.int .i64 b.lx, .int .i64 b.hx, .int .i64 b.ly, .int .i64 b.hy] 102
      have A2 := Blk.alloc A1 (.cells #[.int .i64 b.lx, .int .i64 b.hx, .int .i64 b.ly, .int .i64 b.hy] 102)
      have HB2 := Lib.hid (HB1.out.alloc HB1.out.size (.cells #[.int .i64 b.lx, .int .i64 b.hx, .int .i64 b.ly, .int .i64 b.hy] 102))
      obtain ⟨W2, hW⟩ : ∃ W, w1.alloc (.cells #[.int .i64 b.lx, .int .i64 b.hx, .int .i64 b.ly, .int .i64 b.hy] 102) = W := ⟨_, rfl⟩
      rw [hW] at A2 HB2 S1 ⊢
      obtain ⟨g, hg⟩ : ∃ g, w1.heap.size = g := ⟨_, rfl⟩
      rw [hg] at S1 ⊢
      clear hW hg A1 B1 HB1
      obtain ⟨a0, a1, a2, a3, a4⟩ := Blk.cells5 A2
      go_wp2_with fail
      refine (HS.out _ _).mono ?_
      rintro e w3 ⟨rfl, hb3⟩
      have S3 := Blk.bel S1 hb3
      have HB3 := Lib.hid (bthen HB2.out hb3)
      clear A2 S1 HB2 hb3 a0 a1 a2 a3 a4
      obtain ⟨s0, s1, s2, s3⟩ := Blk.cells4 S3
      go_wp2_with fail
      have i0 := sidex a.lx a.hx a.ly a.hy
      have i1 := sidey a.lx a.hx a.ly a.hy
      refine wp_loop_rounds 3 ?_
      rw [rounds_succ]
      go_wp2_with fail
      have X := Blk.new w3 #[.int .i64 a.lx, .int .i64 a.hx] 101
      have S4 := Blk.alloc S3 (.cells #[.int .i64 a.lx, .int .i64 a.hx] 101)
      have HB4 := Lib.hid (HB3.out.alloc HB3.out.size (.cells #[.int .i64 a.lx, .int .i64 a.hx] 101))
      obtain ⟨W4, hW⟩ : ∃ W, w3.alloc (.cells #[.int .i64 a.lx, .int .i64 a.hx] 101) = W := ⟨_, rfl⟩
      rw [hW] at S4 HB4 X ⊢
      obtain ⟨k4, hk⟩ : ∃ g, w3.heap.size = g := ⟨_, rfl⟩
      rw [hk] at X ⊢
      clear hW hk S3 HB3 s0 s1 s2 s3
      obtain ⟨s0, s1, s2, s3⟩ := Blk.cells4 S4
      have x0 : W4.cell? ⟨k4, 0, none⟩ = some (.int .i64 a.lx) := Blk.cell X 0 rfl
      have x1 : W4.cell? ⟨k4, 1, none⟩ = some (.int .i64 a.hx) := Blk.cell X 1 rfl
      go_quiet (fail)
      have S3 : Blk (W4.drewN nq) g #[.int .i64 b.lx, .int .i64 b.hx, .int .i64 b.ly, .int .i64 b.hy] 102 := S4
      have HB3 := Lib.hid (below_drewN HB4.out nq)
      obtain ⟨W4q, hW⟩ : ∃ W, W4.drewN nq = W := ⟨_, rfl⟩
      rw [hW] at S3 HB3 ⊢
      clear hW x0 x1 X S4 HB4 s0 s1 s2 s3
      obtain ⟨s0, s1, s2, s3⟩ := Blk.cells4 S3
      cases c1 : decide (min a.hx b.hx < max a.lx b.lx) with
      | true =>
        go_wp2_with fail
        go_ret
        exact ⟨by rw [c1]; rfl, HB3.out⟩
      | false =>
        go_wp2_with fail
        rw [rounds_succ]
        go_wp2_with fail
        have X := Blk.new W4q #[.int .i64 a.ly, .int .i64 a.hy] 101
        have S4 := Blk.alloc S3 (.cells #[.int .i64 a.ly, .int .i64 a.hy] 101)
        have HB4 := Lib.hid (HB3.out.alloc HB3.out.size (.cells #[.int .i64 a.ly, .int .i64 a.hy] 101))
        obtain ⟨W6, hW⟩ : ∃ W, W4q.alloc (.cells #[.int .i64 a.ly, .int .i64 a.hy] 101) = W := ⟨_, rfl⟩
        rw [hW] at S4 HB4 X ⊢
        obtain ⟨k6, hk⟩ : ∃ g, W4q.heap.size = g := ⟨_, rfl⟩
        rw [hk] at X ⊢
        clear hW hk S3 HB3 s0 s1 s2 s3
        obtain ⟨s0, s1, s2, s3⟩ := Blk.cells4 S4
        have x0 : W6.cell? ⟨k6, 0, none⟩ = some (.int .i64 a.ly) := Blk.cell X 0 rfl
        have x1 : W6.cell? ⟨k6, 1, none⟩ = some (.int .i64 a.hy) := Blk.cell X 1 rfl
        go_quiet (fail)
        have S3 : Blk (W6.drewN nq) g #[.int .i64 b.lx, .int .i64 b.hx, .int .i64 b.ly, .int .i64 b.hy] 102 := S4
        have HB3 := Lib.hid (below_drewN HB4.out nq)
        obtain ⟨W6q, hW⟩ : ∃ W, W6.drewN nq = W := ⟨_, rfl⟩
        rw [hW] at S3 HB3 ⊢
        clear hW x0 x1 X S4 HB4 s0 s1 s2 s3
        obtain ⟨s0, s1, s2, s3⟩ := Blk.cells4 S3
        cases c2 : decide (min a.hy b.hy < max a.ly b.ly) with
        | true =>
          go_wp2_with fail
          go_ret
          exact ⟨by rw [c1, c2]; rfl, HB3.out⟩
        | false =>
          go_wp2_with fail
          rw [rounds_succ]
          go_wp2_with fail
          go_ret
          exact ⟨by rw [c1, c2]; rfl, HB3.out⟩

end Go.Proofs.YtakkifedcbhgfaaDoor.K
namespace Go.Proofs.YtakkifedcbhgfaaDoor.K
open Go Go.RowKit Go.Proofs.YtakkifedcbhgfaaDoorW.PrintWords Go.Proofs.YtakkifedcbhgfaaDoorW.PrintLast Go.Proofs.YtakkifedcbhgfaaDoorW.PrintMore
set_option linter.unusedVariables false
set_option linter.unusedSimpArgs false
open Go.Proofs.YtakkifedcbhgfaaDoor.MWide (W64 U192 addV subV addOk subOk cmpV)
open Go.Proofs.YtakkifedcbhgfaaDoor.MBox (Bx I64)
theorem kb {w w' : World} {g : Nat} {b : Bx} (hb : Bel w w') (hh : w.cell? ⟨g, 0, none⟩ = some (.bool b.no) ∧ w.cell? ⟨g, 1, none⟩ = some (.int .i64 b.lx) ∧ w.cell? ⟨g, 2, none⟩ = some (.int .i64 b.ly) ∧ w.cell? ⟨g, 3, none⟩ = some (.int .i64 b.hx) ∧ w.cell? ⟨g, 4, none⟩ = some (.int .i64 b.hy)) : w'.cell? ⟨g, 0, none⟩ = some (.bool b.no) ∧ w'.cell? ⟨g, 1, none⟩ = some (.int .i64 b.lx) ∧ w'.cell? ⟨g, 2, none⟩ = some (.int .i64 b.ly) ∧ w'.cell? ⟨g, 3, none⟩ = some (.int .i64 b.hx) ∧ w'.cell? ⟨g, 4, none⟩ = some (.int .i64 b.hy) := by
  obtain ⟨h0, h1, h2, h3, h4⟩ := hh
  exact ⟨kc hb h0, kc hb h1, kc hb h2, kc hb h3, kc hb h4⟩
theorem kb_set3 {w : World} {g j : Nat} {b : Bx} {x y z : Value} (hg : g ≠ j) (hh : w.cell? ⟨g, 0, none⟩ = some (.bool b.no) ∧ w.cell? ⟨g, 1, none⟩ = some (.int .i64 b.lx) ∧ w.cell? ⟨g, 2, none⟩ = some (.int .i64 b.ly) ∧ w.cell? ⟨g, 3, none⟩ = some (.int .i64 b.hx) ∧ w.cell? ⟨g, 4, none⟩ = some (.int .i64 b.hy)) :
    let W := ((w.setCell ⟨j, 0, none⟩ x).setCell ⟨j, 1, none⟩ y).setCell ⟨j, 2, none⟩ z
    W.cell? ⟨g, 0, none⟩ = some (.bool b.no) ∧ W.cell? ⟨g, 1, none⟩ = some (.int .i64 b.lx) ∧ W.cell? ⟨g, 2, none⟩ = some (.int .i64 b.ly) ∧ W.cell? ⟨g, 3, none⟩ = some (.int .i64 b.hx) ∧ W.cell? ⟨g, 4, none⟩ = some (.int .i64 b.hy) := by
  obtain ⟨h0, h1, h2, h3, h4⟩ := hh
  exact ⟨cell_set3_ne hg h0, cell_set3_ne hg h1, cell_set3_ne hg h2, cell_set3_ne hg h3, cell_set3_ne hg h4⟩
theorem Span_is (x y r : Int) (w : World) (hx : I64 x) (hy : I64 y) (h : spanV x y = r) : Calls Tryd.prog 16 #[.int .i64 x, .int .i64 y] w fun e w' => e = .returned (.int .u64 r) ∧ w = w' := h ▸ Span_calls x y hx.1 hx.2 hy.1 hy.2 w
theorem refSpan_is (x y r : Int) (w : World) (hx : I64 x) (hy : I64 y) (h : spanV x y = r) : Calls Tryd.prog 17 #[.int .i64 x, .int .i64 y] w fun e w' => e = .returned (.int .u64 r) ∧ w = w' := h ▸ refSpan_calls x y hx.1 hx.2 hy.1 hy.2 w
set_option maxHeartbeats 2000000 in
set_option maxRecDepth 100000 in
theorem area_calls (b : Bx) (w : World) (hok : b.ok) : Calls Tryd.prog 44 #[.agg #[.bool b.no, .int .i64 b.lx, .int .i64 b.ly, .int .i64 b.hx, .int .i64 b.hy]] w fun e w' => e = .returned (.agg #[.int .u64 (MWide.w0 (MBox.area b)), .int .u64 (MWide.w1 (MBox.area b)), .int .u64 (MWide.w2 (MBox.area b))]) ∧ Bel w w' := by
  have HH := Lib.hid has_is
  have HS := Lib.hid Span_is
  cases hA : MBox.has b with
  | false =>
    have hr : MBox.area b = 0 := by unfold MBox.area; rw [if_neg (by rw [hA]; decide)]
    rw [hr]
    clear hr
    have A := (Blk.new w #[.bool b.no, .int .i64 b.lx, .int .i64 b.ly, .int .i64 b.hx, .int .i64 b.hy] 52).alloc (.cells #[.int .u64 0, .int .u64 0, .int .u64 0] 26)
    have R := Blk.new_at (W := (w.alloc (.cells #[.bool b.no, .int .i64 b.lx, .int .i64 b.ly, .int .i64 b.hx, .int .i64 b.hy] 52))) (g := w.heap.size + 1) (by simp) #[.int .u64 0, .int .u64 0, .int .u64 0] 26
    have HB : Hid (Below w.heap.size w ((w.alloc (.cells #[.bool b.no, .int .i64 b.lx, .int .i64 b.ly, .int .i64 b.hx, .int .i64 b.hy] 52)).alloc (.cells #[.int .u64 0, .int .u64 0, .int .u64 0] 26))) := Lib.hid (by repeat (first | exact Below.refl _ _ | refine Below.drew ?_ | refine Below.alloc ?_ (by simp <;> omega) _))
    go_enter Tryd.func44, Tryd.ntmps44
    go_upto_region 1 with (fail)
    obtain ⟨W, hW⟩ : ∃ W, ((w.alloc (.cells #[.bool b.no, .int .i64 b.lx, .int .i64 b.ly, .int .i64 b.hx, .int .i64 b.hy] 52)).alloc (.cells #[.int .u64 0, .int .u64 0, .int .u64 0] 26)) = W := ⟨_, rfl⟩
    rw [hW] at A R HB ⊢
    clear hW
    obtain ⟨a0, a1, a2, a3, a4⟩ := Blk.cells5 A
    obtain ⟨r0, r1, r2⟩ := Blk.cells3 R
    have rf0 := R.froz 0
    have rf1 := R.froz 1
    have rf2 := R.froz 2
    go_wp2_with (go_at_call 74; refine (HH.out _ _ _ (by assumption)).mono ?_; rintro e w' ⟨rfl, hb⟩; clear a0 a1 a2 a3 a4 r0 r1 r2 rf0 rf1 rf2; have A := Blk.bel A hb; have R := Blk.bel R hb; have HB := Lib.hid (bthen HB.out hb); clear hb; obtain ⟨a0, a1, a2, a3, a4⟩ := Blk.cells5 A; obtain ⟨r0, r1, r2⟩ := Blk.cells3 R; have rf0 := R.froz 0; have rf1 := R.froz 1; have rf2 := R.froz 2)
    refine bodyPost_ret (v := .agg #[.int .u64 (MWide.w0 0), .int .u64 (MWide.w1 0), .int .u64 (MWide.w2 0)]) ?_ rfl ⟨rfl, below_set3 HB.out (by omega) _ _ _⟩
    obtain ⟨q0, q1, q2⟩ := Blk.cells3 (Blk.set3 R (x' := .int .u64 0) (y' := .int .u64 0) (z' := .int .u64 0))
    simp [results, Tryd.results44, go_sem, q0, q1, q2]
    try exact ⟨rfl, rfl, rfl⟩
  | true =>
    have hh := (MBox.has_iff b).1 hA
    have hw := MBox.side_64 hok hA
    have hr : MBox.area b = (b.hx - b.lx) * (b.hy - b.ly) := by unfold MBox.area; rw [if_pos hA]
    obtain ⟨sx, hsx⟩ : ∃ s, b.hx - b.lx = s := ⟨_, rfl⟩
    obtain ⟨sy, hsy⟩ : ∃ s, b.hy - b.ly = s := ⟨_, rfl⟩
    have hpx : spanV b.lx b.hx = sx := by unfold spanV; rw [if_neg (by omega)]; exact hsx
    have hpy : spanV b.ly b.hy = sy := by unfold spanV; rw [if_neg (by omega)]; exact hsy
    rw [hsx, hsy] at hw hr
    rw [hr]
    have HT := Lib.hid (fun w => Times_calls sx sy hw.1 hw.2 w)
    obtain ⟨hI0, hI1, hI2, hI3⟩ := hok
    clear hh hw hr hsx hsy
    have A := (Blk.new w #[.bool b.no, .int .i64 b.lx, .int .i64 b.ly, .int .i64 b.hx, .int .i64 b.hy] 52).alloc (.cells #[.int .u64 0, .int .u64 0, .int .u64 0] 26)
    have R := Blk.new_at (W := (w.alloc (.cells #[.bool b.no, .int .i64 b.lx, .int .i64 b.ly, .int .i64 b.hx, .int .i64 b.hy] 52))) (g := w.heap.size + 1) (by simp) #[.int .u64 0, .int .u64 0, .int .u64 0] 26
    have HB : Hid (Below w.heap.size w ((w.alloc (.cells #[.bool b.no, .int .i64 b.lx, .int .i64 b.ly, .int .i64 b.hx, .int .i64 b.hy] 52)).alloc (.cells #[.int .u64 0, .int .u64 0, .int .u64 0] 26))) := Lib.hid (by repeat (first | exact Below.refl _ _ | refine Below.drew ?_ | refine Below.alloc ?_ (by simp <;> omega) _))
    go_enter Tryd.func44, Tryd.ntmps44
    go_upto_region 1 with (fail)
    obtain ⟨W, hW⟩ : ∃ W, ((w.alloc (.cells #[.bool b.no, .int .i64 b.lx, .int .i64 b.ly, .int .i64 b.hx, .int .i64 b.hy] 52)).alloc (.cells #[.int .u64 0, .int .u64 0, .int .u64 0] 26)) = W := ⟨_, rfl⟩
    rw [hW] at A R HB ⊢
    clear hW
    obtain ⟨a0, a1, a2, a3, a4⟩ := Blk.cells5 A
    obtain ⟨r0, r1, r2⟩ := Blk.cells3 R
    have rf0 := R.froz 0
    have rf1 := R.froz 1
    have rf2 := R.froz 2
    go_wp2_with (go_at_call 74; refine (HH.out _ _ _ (by assumption)).mono ?_; rintro e w' ⟨rfl, hb⟩; clear a0 a1 a2 a3 a4 r0 r1 r2 rf0 rf1 rf2; have A := Blk.bel A hb; have R := Blk.bel R hb; have HB := Lib.hid (bthen HB.out hb); clear hb; obtain ⟨a0, a1, a2, a3, a4⟩ := Blk.cells5 A; obtain ⟨r0, r1, r2⟩ := Blk.cells3 R; have rf0 := R.froz 0; have rf1 := R.froz 1; have rf2 := R.froz 2)
    have hS0 := And.intro a0 (And.intro a1 (And.intro a2 (And.intro a3 a4)))
    go_region_held3 (fun w' => w'.cell? ⟨w.heap.size, 0, none⟩ = some (.bool b.no) ∧ w'.cell? ⟨w.heap.size, 1, none⟩ = some (.int .i64 b.lx) ∧ w'.cell? ⟨w.heap.size, 2, none⟩ = some (.int .i64 b.ly) ∧ w'.cell? ⟨w.heap.size, 3, none⟩ = some (.int .i64 b.hx) ∧ w'.cell? ⟨w.heap.size, 4, none⟩ = some (.int .i64 b.hy)) (first | with_reducible assumption | with_reducible exact kb (Bel.drew _) hS0 | with_reducible exact kb hb (by assumption) | with_reducible exact kb_set3 (by omega) (by assumption))
      (first
      | (go_at_call 16; refine (HS.out _ _ _ _ (by assumption) (by assumption) (by assumption)).mono ?_; rintro e w' ⟨rfl, rfl⟩)
      | (go_at_call 14; refine (HT.out _).mono ?_; rintro e w' ⟨rfl, hb⟩; have R := Blk.bel (Blk.drew R) hb; have HB := Lib.hid (bthen HB.out.drew hb); obtain ⟨r0, r1, r2⟩ := Blk.cells3 R; have rf0 := R.froz 0; have rf1 := R.froz 1; have rf2 := R.froz 2))
    all_goals
      go_wp2
      refine bodyPost_ret (v := .agg #[.int .u64 (MWide.w0 (sx * sy)), .int .u64 (MWide.w1 (sx * sy)), .int .u64 (MWide.w2 (sx * sy))]) ?_ rfl ⟨rfl, below_set3 HB.out (by omega) _ _ _⟩
      obtain ⟨q0, q1, q2⟩ := Blk.cells3 (Blk.set3 R (x' := .int .u64 (MWide.w0 (sx * sy))) (y' := .int .u64 (MWide.w1 (sx * sy))) (z' := .int .u64 (MWide.w2 (sx * sy))))
      simp [results, Tryd.results44, go_sem, q0, q1, q2]
set_option maxHeartbeats 2000000 in
set_option maxRecDepth 100000 in
theorem refArea_calls (b : Bx) (w : World) (hok : b.ok) : Calls Tryd.prog 55 #[.agg #[.bool b.no, .int .i64 b.lx, .int .i64 b.ly, .int .i64 b.hx, .int .i64 b.hy]] w fun e w' => e = .returned (.agg #[.int .u64 (MWide.w0 (MBox.area b)), .int .u64 (MWide.w1 (MBox.area b)), .int .u64 (MWide.w2 (MBox.area b))]) ∧ Bel w w' := by
  have HH := Lib.hid refHas_is
  have HS := Lib.hid refSpan_is
  cases hA : MBox.has b with
  | false =>
    have hr : MBox.area b = 0 := by unfold MBox.area; rw [if_neg (by rw [hA]; decide)]
    rw [hr]
    clear hr
    have A := (Blk.new w #[.bool b.no, .int .i64 b.lx, .int .i64 b.ly, .int .i64 b.hx, .int .i64 b.hy] 52).alloc (.cells #[.int .u64 0, .int .u64 0, .int .u64 0] 24)
    have R := Blk.new_at (W := (w.alloc (.cells #[.bool b.no, .int .i64 b.lx, .int .i64 b.ly, .int .i64 b.hx, .int .i64 b.hy] 52))) (g := w.heap.size + 1) (by simp) #[.int .u64 0, .int .u64 0, .int .u64 0] 24
    have HB : Hid (Below w.heap.size w ((w.alloc (.cells #[.bool b.no, .int .i64 b.lx, .int .i64 b.ly, .int .i64 b.hx, .int .i64 b.hy] 52)).alloc (.cells #[.int .u64 0, .int .u64 0, .int .u64 0] 24))) := Lib.hid (by repeat (first | exact Below.refl _ _ | refine Below.drew ?_ | refine Below.alloc ?_ (by simp <;> omega) _))
    go_enter Tryd.func55, Tryd.ntmps55
    go_upto_region 1 with (fail)
    obtain ⟨W, hW⟩ : ∃ W, ((w.alloc (.cells #[.bool b.no, .int .i64 b.lx, .int .i64 b.ly, .int .i64 b.hx, .int .i64 b.hy] 52)).alloc (.cells #[.int .u64 0, .int .u64 0, .int .u64 0] 24)) = W := ⟨_, rfl⟩
    rw [hW] at A R HB ⊢
    clear hW
    obtain ⟨a0, a1, a2, a3, a4⟩ := Blk.cells5 A
    obtain ⟨r0, r1, r2⟩ := Blk.cells3 R
    have rf0 := R.froz 0
    have rf1 := R.froz 1
    have rf2 := R.froz 2
    go_wp2_with (go_at_call 80; refine (HH.out _ _ _ (by assumption)).mono ?_; rintro e w' ⟨rfl, hb⟩; clear a0 a1 a2 a3 a4 r0 r1 r2 rf0 rf1 rf2; have A := Blk.bel A hb; have R := Blk.bel R hb; have HB := Lib.hid (bthen HB.out hb); clear hb; obtain ⟨a0, a1, a2, a3, a4⟩ := Blk.cells5 A; obtain ⟨r0, r1, r2⟩ := Blk.cells3 R; have rf0 := R.froz 0; have rf1 := R.froz 1; have rf2 := R.froz 2)
    refine bodyPost_ret (v := .agg #[.int .u64 (MWide.w0 0), .int .u64 (MWide.w1 0), .int .u64 (MWide.w2 0)]) ?_ rfl ⟨rfl, below_set3 HB.out (by omega) _ _ _⟩
    obtain ⟨q0, q1, q2⟩ := Blk.cells3 (Blk.set3 R (x' := .int .u64 0) (y' := .int .u64 0) (z' := .int .u64 0))
    simp [results, Tryd.results55, go_sem, q0, q1, q2]
    try exact ⟨rfl, rfl, rfl⟩
  | true =>
    have hh := (MBox.has_iff b).1 hA
    have hw := MBox.side_64 hok hA
    have hr : MBox.area b = (b.hx - b.lx) * (b.hy - b.ly) := by unfold MBox.area; rw [if_pos hA]
    obtain ⟨sx, hsx⟩ : ∃ s, b.hx - b.lx = s := ⟨_, rfl⟩
    obtain ⟨sy, hsy⟩ : ∃ s, b.hy - b.ly = s := ⟨_, rfl⟩
    have hpx : spanV b.lx b.hx = sx := by unfold spanV; rw [if_neg (by omega)]; exact hsx
    have hpy : spanV b.ly b.hy = sy := by unfold spanV; rw [if_neg (by omega)]; exact hsy
    rw [hsx, hsy] at hw hr
    rw [hr]
    have HT := Lib.hid (fun w => refTimes_calls sx sy w hw.1 hw.2)
    obtain ⟨hI0, hI1, hI2, hI3⟩ := hok
    clear hh hw hr hsx hsy
    have A := (Blk.new w #[.bool b.no, .int .i64 b.lx, .int .i64 b.ly, .int .i64 b.hx, .int .i64 b.hy] 52).alloc (.cells #[.int .u64 0, .int .u64 0, .int .u64 0] 24)
    have R := Blk.new_at (W := (w.alloc (.cells #[.bool b.no, .int .i64 b.lx, .int .i64 b.ly, .int .i64 b.hx, .int .i64 b.hy] 52))) (g := w.heap.size + 1) (by simp) #[.int .u64 0, .int .u64 0, .int .u64 0] 24
    have HB : Hid (Below w.heap.size w ((w.alloc (.cells #[.bool b.no, .int .i64 b.lx, .int .i64 b.ly, .int .i64 b.hx, .int .i64 b.hy] 52)).alloc (.cells #[.int .u64 0, .int .u64 0, .int .u64 0] 24))) := Lib.hid (by repeat (first | exact Below.refl _ _ | refine Below.drew ?_ | refine Below.alloc ?_ (by simp <;> omega) _))
    go_enter Tryd.func55, Tryd.ntmps55
    go_upto_region 1 with (fail)
    obtain ⟨W, hW⟩ : ∃ W, ((w.alloc (.cells #[.bool b.no, .int .i64 b.lx, .int .i64 b.ly, .int .i64 b.hx, .int .i64 b.hy] 52)).alloc (.cells #[.int .u64 0, .int .u64 0, .int .u64 0] 24)) = W := ⟨_, rfl⟩
    rw [hW] at A R HB ⊢
    clear hW
    obtain ⟨a0, a1, a2, a3, a4⟩ := Blk.cells5 A
    obtain ⟨r0, r1, r2⟩ := Blk.cells3 R
    have rf0 := R.froz 0
    have rf1 := R.froz 1
    have rf2 := R.froz 2
    go_wp2_with (go_at_call 80; refine (HH.out _ _ _ (by assumption)).mono ?_; rintro e w' ⟨rfl, hb⟩; clear a0 a1 a2 a3 a4 r0 r1 r2 rf0 rf1 rf2; have A := Blk.bel A hb; have R := Blk.bel R hb; have HB := Lib.hid (bthen HB.out hb); clear hb; obtain ⟨a0, a1, a2, a3, a4⟩ := Blk.cells5 A; obtain ⟨r0, r1, r2⟩ := Blk.cells3 R; have rf0 := R.froz 0; have rf1 := R.froz 1; have rf2 := R.froz 2)
    have hS0 := And.intro a0 (And.intro a1 (And.intro a2 (And.intro a3 a4)))
    go_region_held3 (fun w' => w'.cell? ⟨w.heap.size, 0, none⟩ = some (.bool b.no) ∧ w'.cell? ⟨w.heap.size, 1, none⟩ = some (.int .i64 b.lx) ∧ w'.cell? ⟨w.heap.size, 2, none⟩ = some (.int .i64 b.ly) ∧ w'.cell? ⟨w.heap.size, 3, none⟩ = some (.int .i64 b.hx) ∧ w'.cell? ⟨w.heap.size, 4, none⟩ = some (.int .i64 b.hy)) (first | with_reducible assumption | with_reducible exact kb (Bel.drew _) hS0 | with_reducible exact kb hb (by assumption) | with_reducible exact kb_set3 (by omega) (by assumption))
      (first
      | (go_at_call 17; refine (HS.out _ _ _ _ (by assumption) (by assumption) (by assumption)).mono ?_; rintro e w' ⟨rfl, rfl⟩)
      | (go_at_call 15; refine (HT.out _).mono ?_; rintro e w' ⟨rfl, hb⟩; have R := Blk.bel (Blk.drew R) hb; have HB := Lib.hid (bthen HB.out.drew hb); obtain ⟨r0, r1, r2⟩ := Blk.cells3 R; have rf0 := R.froz 0; have rf1 := R.froz 1; have rf2 := R.froz 2))
    all_goals
      go_wp2
      refine bodyPost_ret (v := .agg #[.int .u64 (MWide.w0 (sx * sy)), .int .u64 (MWide.w1 (sx * sy)), .int .u64 (MWide.w2 (sx * sy))]) ?_ rfl ⟨rfl, below_set3 HB.out (by omega) _ _ _⟩
      obtain ⟨q0, q1, q2⟩ := Blk.cells3 (Blk.set3 R (x' := .int .u64 (MWide.w0 (sx * sy))) (y' := .int .u64 (MWide.w1 (sx * sy))) (z' := .int .u64 (MWide.w2 (sx * sy))))
      simp [results, Tryd.results55, go_sem, q0, q1, q2]

end Go.Proofs.YtakkifedcbhgfaaDoor.K
