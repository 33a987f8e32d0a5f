/- The program's Points, Parts, Depth, Empty. -/
import Derived.Test.YtfknhpgelleenaaDoorKB
import Derived.Handy
import Derived.Test.YtfknhpgelleenaaDoorWPCnt
namespace Go.Proofs.YtfknhpgelleenaaDoor.K
open Go Go.RowKit Go.Proofs.YtfknhpgelleenaaDoorW.PrintWords Go.Proofs.YtfknhpgelleenaaDoorW.PrintLast Go.Proofs.YtfknhpgelleenaaDoorW.PrintMore
set_option linter.unusedVariables false
set_option linter.unusedSimpArgs false
open Go.Proofs.YtfknhpgelleenaaDoor.MShape (Sh Cn cnt cnts own1 deeper goes full)
set_option maxRecDepth 100000 in
theorem pfield0 (p q r : Int) (w : World) : (Instr.field 79 (.agg #[.int .i64 p, .int .i64 q, .int .i64 r]) 0).run Tryd.prog w = .ok (.int .i64 p) w := by
  simp [Instr.field, asAgg, go_sem, run_underlying Tryd.underlying79, Tryd.underlying79, Tryd.underlying3, run_underlying Tryd.underlying3]
set_option maxRecDepth 100000 in
theorem pfield1 (p q r : Int) (w : World) : (Instr.field 79 (.agg #[.int .i64 p, .int .i64 q, .int .i64 r]) 1).run Tryd.prog w = .ok (.int .i64 q) w := by
  simp [Instr.field, asAgg, go_sem, run_underlying Tryd.underlying79, Tryd.underlying79, Tryd.underlying3, run_underlying Tryd.underlying3]
set_option maxRecDepth 100000 in
theorem pfield2 (p q r : Int) (w : World) : (Instr.field 79 (.agg #[.int .i64 p, .int .i64 q, .int .i64 r]) 2).run Tryd.prog w = .ok (.int .i64 r) w := by
  simp [Instr.field, asAgg, go_sem, run_underlying Tryd.underlying79, Tryd.underlying79, Tryd.underlying3, run_underlying Tryd.underlying3]
set_option maxHeartbeats 1000000 in
set_option maxRecDepth 100000 in
theorem count_calls (D : Nat) (s : Sh) (c : Value × Value × Value) (w : World) (B : Nat) (hB : B ≤ w.heap.size) (hs : ShB B w D c s) :
    Calls Tryd.prog 53 #[.agg #[c.1, c.2.1, c.2.2]] w fun e w' => e = .returned (.agg (cnCells (MShape.count s))) ∧ Bel w w' ∧ cnOk (MShape.count s) := by
  have HC := Lib.hid (fun c W q B h1 h2 h3 => add_calls D s c W q B 1 MShape.c0 h1 h2 h3 (by omega) (by omega) ⟨MShape.c0_in, by decide, by decide⟩)
  have HS := Lib.hid hs
  obtain ⟨cn, hcn⟩ : ∃ x, MShape.count s = x := ⟨_, rfl⟩
  rw [show cnt s 1 MShape.c0 = cn from hcn] at HC
  rw [hcn]
  clear hcn
  obtain ⟨kd, a, n, m, a', n', m', rfl⟩ := hs.forms
  dsimp only
  clear hs
  have S := ((Blk.new w #[.int .i64 kd, .slice a n m, .slice a' n' m'] 25).alloc (.cells #[.int .i64 0, .int .i64 0, .int .i64 0] 79)).alloc (.cells #[.int .i64 0, .int .i64 (-1), .int .i64 0] 79)
  have R := (Blk.new_at (W := w.alloc (.cells #[.int .i64 kd, .slice a n m, .slice a' n' m'] 25)) (g := w.heap.size + 1) (by simp) #[.int .i64 0, .int .i64 0, .int .i64 0] 79).alloc (.cells #[.int .i64 0, .int .i64 (-1), .int .i64 0] 79)
  have C := Blk.new_at (W := (w.alloc (.cells #[.int .i64 kd, .slice a n m, .slice a' n' m'] 25)).alloc (.cells #[.int .i64 0, .int .i64 0, .int .i64 0] 79)) (g := w.heap.size + 1 + 1) (by simp) #[.int .i64 0, .int .i64 (-1), .int .i64 0] 79
  have HB : Hid (Below w.heap.size w (((w.alloc (.cells #[.int .i64 kd, .slice a n m, .slice a' n' m'] 25)).alloc (.cells #[.int .i64 0, .int .i64 0, .int .i64 0] 79)).alloc (.cells #[.int .i64 0, .int .i64 (-1), .int .i64 0] 79))) := Lib.hid (by repeat (first | exact Below.refl _ _ | refine Below.alloc ?_ (by simp <;> omega) _))
  go_enter Tryd.func53, Tryd.ntmps53
  go_upto_region 2 with (fail)
  obtain ⟨W, hW⟩ : ∃ W, (((w.alloc (.cells #[.int .i64 kd, .slice a n m, .slice a' n' m'] 25)).alloc (.cells #[.int .i64 0, .int .i64 0, .int .i64 0] 79)).alloc (.cells #[.int .i64 0, .int .i64 (-1), .int .i64 0] 79)) = W := ⟨_, rfl⟩
  rw [hW] at S R C HB ⊢
  clear hW
  obtain ⟨s0, s1, s2⟩ := Blk.cells3 S
  have HCALL := Lib.hid (HC.out (.int .i64 kd, .slice a n m, .slice a' n' m') W (w.heap.size + 1 + 1) B (by omega) (HS.out.keep (KeepB.bel HB.out)) C)
  clear HC
  go_upto_region 3 with (go_at_call 80; refine (HCALL.out).mono ?_; rintro e w1 ⟨rfl, hc1, hg1, hok1⟩; have C1 := Lib.hid hc1; have R1 := Blk.grow1 R hg1 (by omega); have HB1 := Lib.hid (Below.grown HB.out hg1 HB.out.size (fun j e => by cases e; omega)); have HOK := Lib.hid hok1; clear hc1 hg1 hok1)
  obtain ⟨P, Q, E⟩ := cn
  have C2 : Blk w1 (w.heap.size + 1 + 1) #[.int .i64 P, .int .i64 Q, .int .i64 E] 79 := C1.out
  obtain ⟨c0, c1, c2⟩ := Blk.cells3 C2
  obtain ⟨r0, r1, r2⟩ := Blk.cells3 R1
  have f0 := R1.froz 0; have f1 := R1.froz 1; have f2 := R1.froz 2
  have R2 := Blk.set3 R1 (x' := .int .i64 P) (y' := .int .i64 Q) (z' := .int .i64 E)
  go_wp2
  refine bodyPost_ret (v := .agg #[.int .i64 P, .int .i64 Q, .int .i64 E]) ?_ rfl ⟨rfl, below_set3 HB1.out (by omega) _ _ _, HOK.out⟩
  obtain ⟨q0, q1, q2⟩ := Blk.cells3 R2
  simp [results, Tryd.results53, go_sem, q0, q1, q2]
set_option maxHeartbeats 1000000 in
set_option maxRecDepth 100000 in
theorem pPoints_calls (D : Nat) (s : Sh) (c : Value × Value × Value) (w : World) (B : Nat) (hB : B ≤ w.heap.size) (hs : ShB B w D c s) (r : Int) (hr : (MShape.count s).points = r) :
    Calls Tryd.prog 17 #[.agg #[c.1, c.2.1, c.2.2]] w fun e w' => e = .returned (.int .i64 r) ∧ Bel w w' := by
  subst hr
  have HC := Lib.hid (count_calls D s)
  have HS := Lib.hid hs
  obtain ⟨cn, hcn⟩ : ∃ x, MShape.count s = x := ⟨_, rfl⟩
  rw [hcn] at HC ⊢
  clear hcn
  obtain ⟨kd, a, n, m, a', n', m', rfl⟩ := hs.forms
  dsimp only
  clear hs
  have S := Blk.new w #[.int .i64 kd, .slice a n m, .slice a' n' m'] 25
  have HB : Hid (Below w.heap.size w (w.alloc (.cells #[.int .i64 kd, .slice a n m, .slice a' n' m'] 25))) := Lib.hid (by repeat (first | exact Below.refl _ _ | refine Below.alloc ?_ (by simp <;> omega) _))
  go_enter Tryd.func17, Tryd.ntmps17
  go_upto_region 1 with (fail)
  obtain ⟨W, hW⟩ : ∃ W, w.alloc (.cells #[.int .i64 kd, .slice a n m, .slice a' n' m'] 25) = W := ⟨_, rfl⟩
  rw [hW] at S HB ⊢
  clear hW
  obtain ⟨s0, s1, s2⟩ := Blk.cells3 S
  have hcall := HC.out (.int .i64 kd, .slice a n m, .slice a' n' m') W B (by have := HB.out.size; omega) (HS.out.keep (KeepB.bel HB.out))
  clear HC
  obtain ⟨P, Q, E⟩ := cn
  have fl := pfield0 P Q E
  have HCALL : Hid (Calls Tryd.prog 53 #[.agg #[.int .i64 kd, .slice a n m, .slice a' n' m']] W fun e w' => e = .returned (.agg #[.int .i64 P, .int .i64 Q, .int .i64 E]) ∧ Bel W w' ∧ cnOk ⟨P, Q, E⟩) := Lib.hid hcall
  clear hcall
  go_wp2_with (go_at_call 53; refine (HCALL.out).mono ?_; rintro e w1 ⟨rfl, hb1, -⟩; have HB1 := Lib.hid (bthen HB.out hb1); clear hb1)
  go_ret
  exact ⟨rfl, HB1.out⟩
set_option maxHeartbeats 1000000 in
set_option maxRecDepth 100000 in
theorem pParts_calls (D : Nat) (s : Sh) (c : Value × Value × Value) (w : World) (B : Nat) (hB : B ≤ w.heap.size) (hs : ShB B w D c s) (r : Int) (hr : (MShape.count s).parts = r) :
    Calls Tryd.prog 19 #[.agg #[c.1, c.2.1, c.2.2]] w fun e w' => e = .returned (.int .i64 r) ∧ Bel w w' := by
  subst hr
  have HC := Lib.hid (count_calls D s)
  have HS := Lib.hid hs
  obtain ⟨cn, hcn⟩ : ∃ x, MShape.count s = x := ⟨_, rfl⟩
  rw [hcn] at HC ⊢
  clear hcn
  obtain ⟨kd, a, n, m, a', n', m', rfl⟩ := hs.forms
  dsimp only
  clear hs
  have S := Blk.new w #[.int .i64 kd, .slice a n m, .slice a' n' m'] 25
  have HB : Hid (Below w.heap.size w (w.alloc (.cells #[.int .i64 kd, .slice a n m, .slice a' n' m'] 25))) := Lib.hid (by repeat (first | exact Below.refl _ _ | refine Below.alloc ?_ (by simp <;> omega) _))
  go_enter Tryd.func19, Tryd.ntmps19
  go_upto_region 1 with (fail)
  obtain ⟨W, hW⟩ : ∃ W, w.alloc (.cells #[.int .i64 kd, .slice a n m, .slice a' n' m'] 25) = W := ⟨_, rfl⟩
  rw [hW] at S HB ⊢
  clear hW
  obtain ⟨s0, s1, s2⟩ := Blk.cells3 S
  have hcall := HC.out (.int .i64 kd, .slice a n m, .slice a' n' m') W B (by have := HB.out.size; omega) (HS.out.keep (KeepB.bel HB.out))
  clear HC
  obtain ⟨P, Q, E⟩ := cn
  have fl := pfield1 P Q E
  have HCALL : Hid (Calls Tryd.prog 53 #[.agg #[.int .i64 kd, .slice a n m, .slice a' n' m']] W fun e w' => e = .returned (.agg #[.int .i64 P, .int .i64 Q, .int .i64 E]) ∧ Bel W w' ∧ cnOk ⟨P, Q, E⟩) := Lib.hid hcall
  clear hcall
  go_wp2_with (go_at_call 53; refine (HCALL.out).mono ?_; rintro e w1 ⟨rfl, hb1, -⟩; have HB1 := Lib.hid (bthen HB.out hb1); clear hb1)
  go_ret
  exact ⟨rfl, HB1.out⟩
set_option maxHeartbeats 1000000 in
set_option maxRecDepth 100000 in
theorem pDepth_calls (D : Nat) (s : Sh) (c : Value × Value × Value) (w : World) (B : Nat) (hB : B ≤ w.heap.size) (hs : ShB B w D c s) (r : Int) (hr : (MShape.count s).depth = r) :
    Calls Tryd.prog 18 #[.agg #[c.1, c.2.1, c.2.2]] w fun e w' => e = .returned (.int .i64 r) ∧ Bel w w' := by
  subst hr
  have HC := Lib.hid (count_calls D s)
  have HS := Lib.hid hs
  obtain ⟨cn, hcn⟩ : ∃ x, MShape.count s = x := ⟨_, rfl⟩
  rw [hcn] at HC ⊢
  clear hcn
  obtain ⟨kd, a, n, m, a', n', m', rfl⟩ := hs.forms
  dsimp only
  clear hs
  have S := Blk.new w #[.int .i64 kd, .slice a n m, .slice a' n' m'] 25
  have HB : Hid (Below w.heap.size w (w.alloc (.cells #[.int .i64 kd, .slice a n m, .slice a' n' m'] 25))) := Lib.hid (by repeat (first | exact Below.refl _ _ | refine Below.alloc ?_ (by simp <;> omega) _))
  go_enter Tryd.func18, Tryd.ntmps18
  go_upto_region 1 with (fail)
  obtain ⟨W, hW⟩ : ∃ W, w.alloc (.cells #[.int .i64 kd, .slice a n m, .slice a' n' m'] 25) = W := ⟨_, rfl⟩
  rw [hW] at S HB ⊢
  clear hW
  obtain ⟨s0, s1, s2⟩ := Blk.cells3 S
  have hcall := HC.out (.int .i64 kd, .slice a n m, .slice a' n' m') W B (by have := HB.out.size; omega) (HS.out.keep (KeepB.bel HB.out))
  clear HC
  obtain ⟨P, Q, E⟩ := cn
  have fl := pfield2 P Q E
  have HCALL : Hid (Calls Tryd.prog 53 #[.agg #[.int .i64 kd, .slice a n m, .slice a' n' m']] W fun e w' => e = .returned (.agg #[.int .i64 P, .int .i64 Q, .int .i64 E]) ∧ Bel W w' ∧ cnOk ⟨P, Q, E⟩) := Lib.hid hcall
  clear hcall
  go_wp2_with (go_at_call 53; refine (HCALL.out).mono ?_; rintro e w1 ⟨rfl, hb1, -⟩; have HB1 := Lib.hid (bthen HB.out hb1); clear hb1)
  go_ret
  exact ⟨rfl, HB1.out⟩
set_option maxHeartbeats 1000000 in
set_option maxRecDepth 100000 in
theorem empty_calls (D : Nat) (s : Sh) (c : Value × Value × Value) (w : World) (B : Nat) (hB : B ≤ w.heap.size) (hs : ShB B w D c s) (r : Bool) (hr : ((MShape.count s).points == 0) = r) :
    Calls Tryd.prog 20 #[.agg #[c.1, c.2.1, c.2.2]] w fun e w' => e = .returned (.bool r) ∧ Bel w w' := by
  subst hr
  have HC := Lib.hid (fun W h1 h2 => pPoints_calls D s c W B h1 h2)
  have HS := Lib.hid hs
  obtain ⟨cn, hcn⟩ : ∃ x, (MShape.count s).points = x := ⟨_, rfl⟩
  rw [hcn] at HC ⊢
  clear hcn
  obtain ⟨kd, a, n, m, a', n', m', rfl⟩ := hs.forms
  dsimp only at HC ⊢
  clear hs
  have S := Blk.new w #[.int .i64 kd, .slice a n m, .slice a' n' m'] 25
  have HB : Hid (Below w.heap.size w (w.alloc (.cells #[.int .i64 kd, .slice a n m, .slice a' n' m'] 25))) := Lib.hid (by repeat (first | exact Below.refl _ _ | refine Below.alloc ?_ (by simp <;> omega) _))
  go_enter Tryd.func20, Tryd.ntmps20
  go_upto_region 1 with (fail)
  obtain ⟨W, hW⟩ : ∃ W, w.alloc (.cells #[.int .i64 kd, .slice a n m, .slice a' n' m'] 25) = W := ⟨_, rfl⟩
  rw [hW] at S HB ⊢
  clear hW
  obtain ⟨s0, s1, s2⟩ := Blk.cells3 S
  have HCALL := Lib.hid (HC.out W (by have := HB.out.size; omega) (HS.out.keep (KeepB.bel HB.out)) cn rfl)
  clear HC
  go_wp2_with (go_at_call 17; refine (HCALL.out).mono ?_; rintro e w1 ⟨rfl, hb1⟩; have HB1 := Lib.hid (bthen HB.out hb1); clear hb1)
  go_ret
  exact ⟨rfl, HB1.out⟩

end Go.Proofs.YtfknhpgelleenaaDoor.K
