/- Which shapes are light. -/
import Derived.Test.YtfknhpgelleenaaDoorKB
import Derived.Handy
import Derived.Test.YtfknhpgelleenaaDoorWCnt
namespace Go.Proofs.YtfknhpgelleenaaDoor.K
open Go Go.RowKit Go.Proofs.YtfknhpgelleenaaDoorW.PrintWords Go.Proofs.YtfknhpgelleenaaDoorW.PrintLast Go.Proofs.YtfknhpgelleenaaDoorW.PrintMore
set_option linter.unusedVariables false
set_option linter.unusedSimpArgs false
open Go.Proofs.YtfknhpgelleenaaDoor.MShape (Sh Cn cnt cnts own1 deeper goes full)
set_option maxRecDepth 100000 in
theorem cfield0 (p q r : Int) (w : World) : (Instr.field 101 (.agg #[.int .i64 p, .int .i64 q, .int .i64 r]) 0).run Tryd.prog w = .ok (.int .i64 p) w := by
  simp [Instr.field, asAgg, go_sem, run_underlying Tryd.underlying101, Tryd.underlying101, Tryd.underlying3, run_underlying Tryd.underlying3]
set_option maxRecDepth 100000 in
theorem cfield1 (p q r : Int) (w : World) : (Instr.field 101 (.agg #[.int .i64 p, .int .i64 q, .int .i64 r]) 1).run Tryd.prog w = .ok (.int .i64 q) w := by
  simp [Instr.field, asAgg, go_sem, run_underlying Tryd.underlying101, Tryd.underlying101, Tryd.underlying3, run_underlying Tryd.underlying3]
set_option maxRecDepth 100000 in
theorem cfield2 (p q r : Int) (w : World) : (Instr.field 101 (.agg #[.int .i64 p, .int .i64 q, .int .i64 r]) 2).run Tryd.prog w = .ok (.int .i64 r) w := by
  simp [Instr.field, asAgg, go_sem, run_underlying Tryd.underlying101, Tryd.underlying101, Tryd.underlying3, run_underlying Tryd.underlying3]
set_option maxHeartbeats 1000000 in
set_option maxRecDepth 100000 in
theorem rOf_calls (D : Nat) (s : Sh) (c : Value × Value × Value) (w : World) (B : Nat) (hB : B ≤ w.heap.size) (hs : ShB B w D c s) :
    Calls Tryd.prog 71 #[.agg #[c.1, c.2.1, c.2.2]] w fun e w' => e = .returned (.agg (cnCells (MShape.count s))) ∧ Bel w w' ∧ cnOk (MShape.count s) := by
  have HC := Lib.hid (fun c W q B h1 h2 h3 => rcount_calls D s c W q B 1 MShape.c0 h1 h2 h3 (by omega) (by omega) ⟨MShape.c0_in, by decide, by decide⟩)
  have HS := Lib.hid hs
  obtain ⟨cn, hcn⟩ : ∃ x, MShape.count s = x := ⟨_, rfl⟩
  rw [show cnt s 1 MShape.c0 = cn from hcn] at HC
  rw [hcn]
  clear hcn
  obtain ⟨kd, a, n, m, a', n', m', rfl⟩ := hs.forms
  dsimp only
  clear hs
  have S := ((Blk.new w #[.int .i64 kd, .slice a n m, .slice a' n' m'] 25).alloc (.cells #[.int .i64 0, .int .i64 0, .int .i64 0] 101)).alloc (.cells #[.int .i64 0, .int .i64 (-1), .int .i64 0] 101)
  have R := (Blk.new_at (W := w.alloc (.cells #[.int .i64 kd, .slice a n m, .slice a' n' m'] 25)) (g := w.heap.size + 1) (by simp) #[.int .i64 0, .int .i64 0, .int .i64 0] 101).alloc (.cells #[.int .i64 0, .int .i64 (-1), .int .i64 0] 101)
  have C := Blk.new_at (W := (w.alloc (.cells #[.int .i64 kd, .slice a n m, .slice a' n' m'] 25)).alloc (.cells #[.int .i64 0, .int .i64 0, .int .i64 0] 101)) (g := w.heap.size + 1 + 1) (by simp) #[.int .i64 0, .int .i64 (-1), .int .i64 0] 101
  have HB : Hid (Below w.heap.size w (((w.alloc (.cells #[.int .i64 kd, .slice a n m, .slice a' n' m'] 25)).alloc (.cells #[.int .i64 0, .int .i64 0, .int .i64 0] 101)).alloc (.cells #[.int .i64 0, .int .i64 (-1), .int .i64 0] 101))) := Lib.hid (by repeat (first | exact Below.refl _ _ | refine Below.alloc ?_ (by simp <;> omega) _))
  go_enter Tryd.func71, Tryd.ntmps71
  go_upto_region 2 with (fail)
  obtain ⟨W, hW⟩ : ∃ W, (((w.alloc (.cells #[.int .i64 kd, .slice a n m, .slice a' n' m'] 25)).alloc (.cells #[.int .i64 0, .int .i64 0, .int .i64 0] 101)).alloc (.cells #[.int .i64 0, .int .i64 (-1), .int .i64 0] 101)) = W := ⟨_, rfl⟩
  rw [hW] at S R C HB ⊢
  clear hW
  obtain ⟨s0, s1, s2⟩ := Blk.cells3 S
  have hcall := HC.out (.int .i64 kd, .slice a n m, .slice a' n' m') W (w.heap.size + 1 + 1) B (by omega) (HS.out.keep (KeepB.bel HB.out)) C
  clear HC
  have HCALL := Lib.hid hcall
  clear hcall
  go_upto_region 3 with (go_at_call 90; refine (HCALL.out).mono ?_; rintro e w1 ⟨rfl, hc1, hg1, hok1⟩; have C1 := Lib.hid hc1; have R1 := Blk.grow1 R hg1 (by omega); have HB1 := Lib.hid (Below.grown HB.out hg1 HB.out.size (fun j e => by cases e; omega)); have HOK := Lib.hid hok1; clear hc1 hg1 hok1)
  obtain ⟨P, Q, E⟩ := cn
  have C2 : Blk w1 (w.heap.size + 1 + 1) #[.int .i64 P, .int .i64 Q, .int .i64 E] 101 := C1.out
  obtain ⟨c0, c1, c2⟩ := Blk.cells3 C2
  obtain ⟨r0, r1, r2⟩ := Blk.cells3 R1
  have f0 := R1.froz 0; have f1 := R1.froz 1; have f2 := R1.froz 2
  have R2 := Blk.set3 R1 (x' := .int .i64 P) (y' := .int .i64 Q) (z' := .int .i64 E)
  go_wp2
  refine bodyPost_ret (v := .agg #[.int .i64 P, .int .i64 Q, .int .i64 E]) ?_ rfl ⟨rfl, below_set3 HB1.out (by omega) _ _ _, HOK.out⟩
  obtain ⟨q0, q1, q2⟩ := Blk.cells3 R2
  simp [results, Tryd.results71, go_sem, q0, q1, q2]
set_option maxHeartbeats 1000000 in
set_option maxRecDepth 100000 in
theorem rPoints_calls (D : Nat) (s : Sh) (c : Value × Value × Value) (w : World) (B : Nat) (hB : B ≤ w.heap.size) (hs : ShB B w D c s) :
    Calls Tryd.prog 50 #[.agg #[c.1, c.2.1, c.2.2]] w fun e w' => e = .returned (.int .i64 (MShape.count s).points) ∧ Bel w w' ∧ cnOk (MShape.count s) := by
  have HC := Lib.hid (rOf_calls D s)
  have HS := Lib.hid hs
  obtain ⟨cn, hcn⟩ : ∃ x, MShape.count s = x := ⟨_, rfl⟩
  rw [hcn] at HC ⊢
  clear hcn
  obtain ⟨kd, a, n, m, a', n', m', rfl⟩ := hs.forms
  dsimp only
  clear hs
  have S := Blk.new w #[.int .i64 kd, .slice a n m, .slice a' n' m'] 25
  have HB : Hid (Below w.heap.size w (w.alloc (.cells #[.int .i64 kd, .slice a n m, .slice a' n' m'] 25))) := Lib.hid (by repeat (first | exact Below.refl _ _ | refine Below.alloc ?_ (by simp <;> omega) _))
  go_enter Tryd.func50, Tryd.ntmps50
  go_upto_region 1 with (fail)
  obtain ⟨W, hW⟩ : ∃ W, w.alloc (.cells #[.int .i64 kd, .slice a n m, .slice a' n' m'] 25) = W := ⟨_, rfl⟩
  rw [hW] at S HB ⊢
  clear hW
  obtain ⟨s0, s1, s2⟩ := Blk.cells3 S
  have hcall := HC.out (.int .i64 kd, .slice a n m, .slice a' n' m') W B (by have := HB.out.size; omega) (HS.out.keep (KeepB.bel HB.out))
  clear HC
  obtain ⟨P, Q, E⟩ := cn
  have fl := cfield0 P Q E
  have HCALL : Hid (Calls Tryd.prog 71 #[.agg #[.int .i64 kd, .slice a n m, .slice a' n' m']] W fun e w' => e = .returned (.agg #[.int .i64 P, .int .i64 Q, .int .i64 E]) ∧ Bel W w' ∧ cnOk ⟨P, Q, E⟩) := Lib.hid hcall
  clear hcall
  go_wp2_with (go_at_call 71; refine (HCALL.out).mono ?_; rintro e w1 ⟨rfl, hb1, hok1⟩; have HB1 := Lib.hid (bthen HB.out hb1); have HOK := Lib.hid hok1; clear hb1 hok1)
  go_ret
  exact ⟨rfl, HB1.out, HOK.out⟩
set_option maxHeartbeats 1000000 in
set_option maxRecDepth 100000 in
theorem rParts_calls (D : Nat) (s : Sh) (c : Value × Value × Value) (w : World) (B : Nat) (hB : B ≤ w.heap.size) (hs : ShB B w D c s) :
    Calls Tryd.prog 51 #[.agg #[c.1, c.2.1, c.2.2]] w fun e w' => e = .returned (.int .i64 (MShape.count s).parts) ∧ Bel w w' ∧ cnOk (MShape.count s) := by
  have HC := Lib.hid (rOf_calls D s)
  have HS := Lib.hid hs
  obtain ⟨cn, hcn⟩ : ∃ x, MShape.count s = x := ⟨_, rfl⟩
  rw [hcn] at HC ⊢
  clear hcn
  obtain ⟨kd, a, n, m, a', n', m', rfl⟩ := hs.forms
  dsimp only
  clear hs
  have S := Blk.new w #[.int .i64 kd, .slice a n m, .slice a' n' m'] 25
  have HB : Hid (Below w.heap.size w (w.alloc (.cells #[.int .i64 kd, .slice a n m, .slice a' n' m'] 25))) := Lib.hid (by repeat (first | exact Below.refl _ _ | refine Below.alloc ?_ (by simp <;> omega) _))
  go_enter Tryd.func51, Tryd.ntmps51
  go_upto_region 1 with (fail)
  obtain ⟨W, hW⟩ : ∃ W, w.alloc (.cells #[.int .i64 kd, .slice a n m, .slice a' n' m'] 25) = W := ⟨_, rfl⟩
  rw [hW] at S HB ⊢
  clear hW
  obtain ⟨s0, s1, s2⟩ := Blk.cells3 S
  have hcall := HC.out (.int .i64 kd, .slice a n m, .slice a' n' m') W B (by have := HB.out.size; omega) (HS.out.keep (KeepB.bel HB.out))
  clear HC
  obtain ⟨P, Q, E⟩ := cn
  have fl := cfield1 P Q E
  have HCALL : Hid (Calls Tryd.prog 71 #[.agg #[.int .i64 kd, .slice a n m, .slice a' n' m']] W fun e w' => e = .returned (.agg #[.int .i64 P, .int .i64 Q, .int .i64 E]) ∧ Bel W w' ∧ cnOk ⟨P, Q, E⟩) := Lib.hid hcall
  clear hcall
  go_wp2_with (go_at_call 71; refine (HCALL.out).mono ?_; rintro e w1 ⟨rfl, hb1, hok1⟩; have HB1 := Lib.hid (bthen HB.out hb1); have HOK := Lib.hid hok1; clear hb1 hok1)
  go_ret
  exact ⟨rfl, HB1.out, HOK.out⟩
set_option maxHeartbeats 1000000 in
set_option maxRecDepth 100000 in
theorem rDepth_calls (D : Nat) (s : Sh) (c : Value × Value × Value) (w : World) (B : Nat) (hB : B ≤ w.heap.size) (hs : ShB B w D c s) :
    Calls Tryd.prog 52 #[.agg #[c.1, c.2.1, c.2.2]] w fun e w' => e = .returned (.int .i64 (MShape.count s).depth) ∧ Bel w w' ∧ cnOk (MShape.count s) := by
  have HC := Lib.hid (rOf_calls D s)
  have HS := Lib.hid hs
  obtain ⟨cn, hcn⟩ : ∃ x, MShape.count s = x := ⟨_, rfl⟩
  rw [hcn] at HC ⊢
  clear hcn
  obtain ⟨kd, a, n, m, a', n', m', rfl⟩ := hs.forms
  dsimp only
  clear hs
  have S := Blk.new w #[.int .i64 kd, .slice a n m, .slice a' n' m'] 25
  have HB : Hid (Below w.heap.size w (w.alloc (.cells #[.int .i64 kd, .slice a n m, .slice a' n' m'] 25))) := Lib.hid (by repeat (first | exact Below.refl _ _ | refine Below.alloc ?_ (by simp <;> omega) _))
  go_enter Tryd.func52, Tryd.ntmps52
  go_upto_region 1 with (fail)
  obtain ⟨W, hW⟩ : ∃ W, w.alloc (.cells #[.int .i64 kd, .slice a n m, .slice a' n' m'] 25) = W := ⟨_, rfl⟩
  rw [hW] at S HB ⊢
  clear hW
  obtain ⟨s0, s1, s2⟩ := Blk.cells3 S
  have hcall := HC.out (.int .i64 kd, .slice a n m, .slice a' n' m') W B (by have := HB.out.size; omega) (HS.out.keep (KeepB.bel HB.out))
  clear HC
  obtain ⟨P, Q, E⟩ := cn
  have fl := cfield2 P Q E
  have HCALL : Hid (Calls Tryd.prog 71 #[.agg #[.int .i64 kd, .slice a n m, .slice a' n' m']] W fun e w' => e = .returned (.agg #[.int .i64 P, .int .i64 Q, .int .i64 E]) ∧ Bel W w' ∧ cnOk ⟨P, Q, E⟩) := Lib.hid hcall
  clear hcall
  go_wp2_with (go_at_call 71; refine (HCALL.out).mono ?_; rintro e w1 ⟨rfl, hb1, hok1⟩; have HB1 := Lib.hid (bthen HB.out hb1); have HOK := Lib.hid hok1; clear hb1 hok1)
  go_ret
  exact ⟨rfl, HB1.out, HOK.out⟩
/-- A shape's block, and what it leads to. -/
def LS (B D : Nat) (s : Sh) (c : Value × Value × Value) (g : Nat) (W : World) : Prop := Blk W g #[c.1, c.2.1, c.2.2] 25 ∧ (B ≤ W.heap.size ∧ ShB B W D c s)
theorem LS.bel {B D g : Nat} {s : Sh} {c : Value × Value × Value} {W W' : World} (h : LS B D s c g W) (hb : Bel W W') : LS B D s c g W' := ⟨h.1.bel hb, Nat.le_trans h.2.1 hb.size, h.2.2.keep (KeepB.bel hb)⟩
set_option maxHeartbeats 2000000 in
set_option maxRecDepth 100000 in
theorem rLight_calls (D : Nat) (s : Sh) (c : Value × Value × Value) (w : World) (B : Nat) (hB : B ≤ w.heap.size) (hs : ShB B w D c s) :
    Calls Tryd.prog 15 #[.agg #[c.1, c.2.1, c.2.2]] w fun e w' => e = .returned (.bool (MShape.light s)) ∧ Bel w w' := by
  have HP := Lib.hid (fun w (h : B ≤ w.heap.size ∧ ShB B w D c s) => rPoints_calls D s c w B h.1 h.2)
  have HQ := Lib.hid (fun w (h : B ≤ w.heap.size ∧ ShB B w D c s) => rParts_calls D s c w B h.1 h.2)
  have HD := Lib.hid (fun w (h : B ≤ w.heap.size ∧ ShB B w D c s) => rDepth_calls D s c w B h.1 h.2)
  have S0 : LS B D s c w.heap.size (w.alloc (.cells #[c.1, c.2.1, c.2.2] 25)) := ⟨Blk.new w _ _, by simp; omega, hs.keep (KeepB.bel ((Bel.refl w).alloc (Nat.le_refl _) _))⟩
  obtain ⟨kd, a, n, m, a', n', m', rfl⟩ := hs.forms
  dsimp only at S0 ⊢
  clear hs
  have hlv : MShape.light s = (decide ((MShape.count s).points ≤ 4000) && (decide ((MShape.count s).parts ≤ 1000) && decide ((MShape.count s).depth ≤ 16))) := rfl
  rw [hlv]
  clear hlv
  obtain ⟨cn, hcn⟩ : ∃ x, MShape.count s = x := ⟨_, rfl⟩
  rw [hcn] at HP HQ HD ⊢
  clear hcn
  obtain ⟨P, Q, E⟩ := cn
  dsimp only at HP HQ HD ⊢
  have HB : Hid (Below w.heap.size w (w.alloc (.cells #[.int .i64 kd, .slice a n m, .slice a' n' m'] 25))) := Lib.hid (by repeat (first | exact Below.refl _ _ | refine Below.alloc ?_ (by simp <;> omega) _))
  have key : ∀ (b1 b2 : Bool), decide (P ≤ 4000) = b1 → decide (Q ≤ 1000) = b2 → Calls Tryd.prog 15 #[.agg #[.int .i64 kd, .slice a n m, .slice a' n' m']] w fun e w' => e = .returned (.bool (b1 && (b2 && decide (E ≤ 16)))) ∧ Bel w w' := by
    intro b1 b2 h1 h2
    have S := S0
    cases b1 <;> cases b2
    all_goals
      go_enter Tryd.func15, Tryd.ntmps15
      go_upto_region 1 with (fail)
      obtain ⟨W, hW⟩ : ∃ W, w.alloc (.cells #[.int .i64 kd, .slice a n m, .slice a' n' m'] 25) = W := ⟨_, rfl⟩
      rw [hW] at S HB ⊢
      clear hW
      obtain ⟨s0, s1, s2⟩ := Blk.cells3 S.1
      dsimp only at s0 s1 s2
      go_wp2_with (first | (go_at_call 50; refine (HP.out _ S.2).mono ?_; rintro e w' ⟨rfl, hb1, -⟩; have S := LS.bel S hb1; have HB := Lib.hid (bthen HB.out hb1); clear hb1 s0 s1 s2; obtain ⟨s0, s1, s2⟩ := Blk.cells3 S.1; dsimp only at s0 s1 s2) | (go_at_call 51; refine (HQ.out _ S.2).mono ?_; rintro e w' ⟨rfl, hb1, -⟩; have S := LS.bel S hb1; have HB := Lib.hid (bthen HB.out hb1); clear hb1 s0 s1 s2; obtain ⟨s0, s1, s2⟩ := Blk.cells3 S.1; dsimp only at s0 s1 s2) | (go_at_call 52; refine (HD.out _ S.2).mono ?_; rintro e w' ⟨rfl, hb1, -⟩; have S := LS.bel S hb1; have HB := Lib.hid (bthen HB.out hb1); clear hb1 s0 s1 s2; obtain ⟨s0, s1, s2⟩ := Blk.cells3 S.1; dsimp only at s0 s1 s2))
      go_ret
      exact ⟨by first | rfl | simp, HB.out⟩
  exact key _ _ rfl rfl

end Go.Proofs.YtfknhpgelleenaaDoor.K
