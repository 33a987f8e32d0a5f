/- The law NodeBack answers true at every input, and its arguments read afterwards as they read before. Conditions: those of the row. -/
import Derived.Test.YtljcingmjemohaaRows
import Derived.Test.YtljcingmjemohaaWNb2
import Derived.Test.YtljcingmjemohaaKB
import Derived.WalkKit
import Derived.ProofKit
import Derived.OpenShut
import Derived.ShutString
import Derived.ChangeOld
import Derived.Below
import Derived.SizedLaws
import Derived.KernelRfl
namespace Go.Proofs.Ytljcingmjemohaa.nodeBack
open Go.ChangeShapes Go.WideShapes Go.ChangeAt Go.RowKit Go.Proofs.Ytljcingmjemohaa.Open Go.Proofs.YtljcingmjemohaaW.PrintWords
open Go.ChangeMaps (open_string shut_string)
set_option linter.unusedVariables false
theorem own : ownKnob Try.prog.godebug = none := by kernel_rfl
theorem laidOut : laidOutB Try.prog = true := by kernel_rfl
set_option maxRecDepth 100000 in
theorem opens24 : Opens Try.prog 24 (Kd.pair (Kd.int .i64) (Kd.slice 57 (Kd.pair (Kd.int .i64) (Kd.pair Kd.bool (Kd.pair (Kd.pair (Kd.int .i64) (Kd.int .i64)) (Kd.pair (Kd.int .i64) (Kd.int .i64))))))) (fun x => (fun n => (Lit.int .i64 n).wf = true) x.1 ∧ (fun xs => (∀ x ∈ xs, (fun x => (fun n => (Lit.int .i64 n).wf = true) x.1 ∧ (fun x => (fun _ => True) x.1 ∧ (fun x => (fun x => (fun n => (Lit.int .i64 n).wf = true) x.1 ∧ (fun n => (Lit.int .i64 n).wf = true) x.2) x.1 ∧ (fun x => (fun n => (Lit.int .i64 n).wf = true) x.1 ∧ (fun n => (Lit.int .i64 n).wf = true) x.2) x.2) x.2) x.2) x) ∧ xs.length ≤ 9223372036854775807) x.2) := (opens_struct Try.underlying24 (by kernel_rfl) (opF_cons (a := (Kd.int .i64)) (b := (Kd.slice 57 (Kd.pair (Kd.int .i64) (Kd.pair Kd.bool (Kd.pair (Kd.pair (Kd.int .i64) (Kd.int .i64)) (Kd.pair (Kd.int .i64) (Kd.int .i64))))))) (Qa := (fun n => (Lit.int .i64 n).wf = true)) (Qb := (fun xs => (∀ x ∈ xs, (fun x => (fun n => (Lit.int .i64 n).wf = true) x.1 ∧ (fun x => (fun _ => True) x.1 ∧ (fun x => (fun x => (fun n => (Lit.int .i64 n).wf = true) x.1 ∧ (fun n => (Lit.int .i64 n).wf = true) x.2) x.1 ∧ (fun x => (fun n => (Lit.int .i64 n).wf = true) x.1 ∧ (fun n => (Lit.int .i64 n).wf = true) x.2) x.2) x.2) x.2) x) ∧ xs.length ≤ 9223372036854775807)) (by kernel_rfl) (by kernel_rfl) (opens_int Try.underlying3) (opF_one (d := (Kd.slice 57 (Kd.pair (Kd.int .i64) (Kd.pair Kd.bool (Kd.pair (Kd.pair (Kd.int .i64) (Kd.int .i64)) (Kd.pair (Kd.int .i64) (Kd.int .i64))))))) (Q := (fun xs => (∀ x ∈ xs, (fun x => (fun n => (Lit.int .i64 n).wf = true) x.1 ∧ (fun x => (fun _ => True) x.1 ∧ (fun x => (fun x => (fun n => (Lit.int .i64 n).wf = true) x.1 ∧ (fun n => (Lit.int .i64 n).wf = true) x.2) x.1 ∧ (fun x => (fun n => (Lit.int .i64 n).wf = true) x.1 ∧ (fun n => (Lit.int .i64 n).wf = true) x.2) x.2) x.2) x.2) x) ∧ xs.length ≤ 9223372036854775807)) (by kernel_rfl) (by kernel_rfl) (opens_slice Try.underlying22 (by kernel_rfl) (opens_struct Try.underlying57 (by kernel_rfl) (opF_cons (a := (Kd.int .i64)) (b := (Kd.pair Kd.bool (Kd.pair (Kd.pair (Kd.int .i64) (Kd.int .i64)) (Kd.pair (Kd.int .i64) (Kd.int .i64))))) (Qa := (fun n => (Lit.int .i64 n).wf = true)) (Qb := (fun x => (fun _ => True) x.1 ∧ (fun x => (fun x => (fun n => (Lit.int .i64 n).wf = true) x.1 ∧ (fun n => (Lit.int .i64 n).wf = true) x.2) x.1 ∧ (fun x => (fun n => (Lit.int .i64 n).wf = true) x.1 ∧ (fun n => (Lit.int .i64 n).wf = true) x.2) x.2) x.2)) (by kernel_rfl) (by kernel_rfl) (opens_int Try.underlying3) (opF_one (d := (Kd.pair Kd.bool (Kd.pair (Kd.pair (Kd.int .i64) (Kd.int .i64)) (Kd.pair (Kd.int .i64) (Kd.int .i64))))) (Q := (fun x => (fun _ => True) x.1 ∧ (fun x => (fun x => (fun n => (Lit.int .i64 n).wf = true) x.1 ∧ (fun n => (Lit.int .i64 n).wf = true) x.2) x.1 ∧ (fun x => (fun n => (Lit.int .i64 n).wf = true) x.1 ∧ (fun n => (Lit.int .i64 n).wf = true) x.2) x.2) x.2)) (by kernel_rfl) (by kernel_rfl) (opens_struct Try.underlying38 (by kernel_rfl) (opF_cons (a := Kd.bool) (b := (Kd.pair (Kd.pair (Kd.int .i64) (Kd.int .i64)) (Kd.pair (Kd.int .i64) (Kd.int .i64)))) (Qa := (fun _ => True)) (Qb := (fun x => (fun x => (fun n => (Lit.int .i64 n).wf = true) x.1 ∧ (fun n => (Lit.int .i64 n).wf = true) x.2) x.1 ∧ (fun x => (fun n => (Lit.int .i64 n).wf = true) x.1 ∧ (fun n => (Lit.int .i64 n).wf = true) x.2) x.2)) (by kernel_rfl) (by kernel_rfl) (opens_bool Try.underlying4) (opF_cons (a := (Kd.pair (Kd.int .i64) (Kd.int .i64))) (b := (Kd.pair (Kd.int .i64) (Kd.int .i64))) (Qa := (fun x => (fun n => (Lit.int .i64 n).wf = true) x.1 ∧ (fun n => (Lit.int .i64 n).wf = true) x.2)) (Qb := (fun x => (fun n => (Lit.int .i64 n).wf = true) x.1 ∧ (fun n => (Lit.int .i64 n).wf = true) x.2)) (by kernel_rfl) (by kernel_rfl) (opens_struct Try.underlying36 (by kernel_rfl) (opF_cons (a := (Kd.int .i64)) (b := (Kd.int .i64)) (Qa := (fun n => (Lit.int .i64 n).wf = true)) (Qb := (fun n => (Lit.int .i64 n).wf = true)) (by kernel_rfl) (by kernel_rfl) (opens_int Try.underlying3) (opF_one (d := (Kd.int .i64)) (Q := (fun n => (Lit.int .i64 n).wf = true)) (by kernel_rfl) (by kernel_rfl) (opens_int Try.underlying3)))) (opF_one (d := (Kd.pair (Kd.int .i64) (Kd.int .i64))) (Q := (fun x => (fun n => (Lit.int .i64 n).wf = true) x.1 ∧ (fun n => (Lit.int .i64 n).wf = true) x.2)) (by kernel_rfl) (by kernel_rfl) (opens_struct Try.underlying36 (by kernel_rfl) (opF_cons (a := (Kd.int .i64)) (b := (Kd.int .i64)) (Qa := (fun n => (Lit.int .i64 n).wf = true)) (Qb := (fun n => (Lit.int .i64 n).wf = true)) (by kernel_rfl) (by kernel_rfl) (opens_int Try.underlying3) (opF_one (d := (Kd.int .i64)) (Q := (fun n => (Lit.int .i64 n).wf = true)) (by kernel_rfl) (by kernel_rfl) (opens_int Try.underlying3)))))))))))))))
set_option maxRecDepth 100000 in
theorem opens32 : Opens Try.prog 32 (Kd.slice 5 (Kd.int .u8)) (fun xs => (∀ x ∈ xs, (fun n => (Lit.int .u8 n).wf = true) x) ∧ xs.length ≤ 9223372036854775807) := (opens_slice Try.underlying32 (by kernel_rfl) (opens_int Try.underlying5))
set_option maxRecDepth 100000 in
theorem lifted (os : Os) (started : os.Started) (H : Type) (enc : TypeId × Value → H) :
    ReturnsInHanded {} Try.checked os 6 .any (Rows.nodeBackSpec.pre6 enc Try.prog Try.f6 Rows.nodeBackRow.domain false) (Rows.nodeBackSpec.post enc Try.prog Try.f6 false true false false) := by
  refine returnsInHanded_of_change_sized (C := Try.checked) own started (by kernel_rfl) Try.func6
    (ChangeSpec.witness6 (enc := enc) (C := Try.checked) false ⟨#[], #[.agg #[.int .i64 0, .slice none 0 0], .slice none 0 0, .int .u64 0], []⟩ 8 (by kernel_rfl) (by kernel_rfl) (by kernel_rfl) (by kernel_rfl)) ?_
  intro W base args ds gs before hval0 hW hcnd hsz0 _
  have hval : ∀ (j : Nat) t v, Try.f6.params[j]? = some t → args[j]? = some v → Value.okWide Try.prog W .any base t v := hval0
  have hW' := hW
  obtain ⟨p, q, hA0, hV, rfl, hfz, hnd⟩ := hW
  have hA : DataW.TrodAll enc Try.prog W 0 (fun _ => true) true Try.f6.params.toList args.toList ds p := hA0
  rw [Try.params6] at hA hval
  obtain ⟨v0, vs0, d0, ds0, p0, q0, hargs, rfl, rfl, h0, r0⟩ := trodAll_cons hA
  obtain ⟨v1, vs1, d1, ds1, p1, q1, rfl, rfl, rfl, h1, r1⟩ := trodAll_cons r0
  obtain ⟨v2, vs2, d2, ds2, p2, q2, rfl, rfl, rfl, h2, r2⟩ := trodAll_cons r1
  obtain ⟨rfl, rfl, rfl⟩ := trodAll_nil r2
  obtain rfl : args = #[v0, v1, v2] := by cases args; simp_all
  obtain ⟨rfl, rfl⟩ := trodVars_none hV
  have k0 := h0
  have lt0 : ∀ x ∈ p0, x.block < W.heap.size := by obtain ⟨m, hm⟩ := k0; exact DataW.trod_lt m _ _ _ hm
  obtain ⟨fu0, hf0⟩ := h0
  obtain ⟨x0, hx0, hq0⟩ := opens24 _ _ _ _ _ _ hf0
  obtain ⟨cs0, rfl, _⟩ := okWide_struct Try.underlying24 (hval 0 24 v0 rfl rfl)
  have k1 := h1
  have lt1 : ∀ x ∈ p1, x.block < W.heap.size := by obtain ⟨m, hm⟩ := k1; exact DataW.trod_lt m _ _ _ hm
  obtain ⟨fu1, hf1⟩ := h1
  obtain ⟨x1, hx1, hq1⟩ := opens32 _ _ _ _ _ _ hf1
  obtain ⟨a1, len1, cap1, rfl⟩ := okWide_slice Try.underlying32 (hval 1 32 v1 rfl rfl)
  obtain ⟨A1, c1, e1, hc1, hC1⟩ := hx1
  simp only [Value.cells, List.cons.injEq, Value.slice.injEq, and_true] at e1
  obtain ⟨rfl, rfl, rfl⟩ := e1
  obtain ⟨a2, rfl, rfl, rfl, w2⟩ := open_int Try.underlying69 (hval 2 69 v2 rfl rfl) h2
  refine (Go.Proofs.Ytljcingmjemohaa.K.NodeBack_calls cs0 x0 hx0 hq0 a1 cap1 x1 hC1 hc1 hq1 a2 w2).mono fun e W' ⟨he, bel⟩ => ?_
  subst he
  exact ⟨_, rfl, _, _, _, [], _, [], hW', trodAll_mk1 (shut_bool Try.underlying4 _), (trodAll_cons_mk (Below.trod laidOut (by kernel_rfl) (of_decide_eq_true (by kernel_rfl)) k0 bel lt0) (trodAll_cons_mk (Below.trod laidOut (by kernel_rfl) (of_decide_eq_true (by kernel_rfl)) k1 bel lt1) (trodAll_cons_mk (shut_int Try.underlying69 w2) trodAll_mk0))), rfl, bel.frame _, fun h => by cases h⟩
theorem over : Rows.nodeBackRow.holds Try.pinned (OpenSpec.ofChange Rows.nodeBackSpec) :=
  OpenClaim.holds_of_wide 6 Try.f6 rfl rfl rfl rfl rfl rfl rfl ⟨rfl, rfl, rfl, rfl, rfl⟩ rfl rfl rfl rfl rfl (by kernel_rfl) Try.func6 (by kernel_rfl)
    (of_decide_eq_true (by kernel_rfl)) (by unfold Func.isWrapper; first | (rw [if_pos (by decide +kernel)]; kernel_rfl) | (rw [if_neg (by decide +kernel)]; exact ⟨rfl, rfl⟩))
    (fun os started H enc _ => lifted os started H enc)
theorem proved : Rows.NodeBackSaid := over
#print axioms proved
end Go.Proofs.Ytljcingmjemohaa.nodeBack
namespace Go.Proofs.Ytljcingmjemohaa
/-- The row, under a short name, for the claim. -/
theorem nodeBack_holds : Rows.NodeBackSaid := nodeBack.proved
end Go.Proofs.Ytljcingmjemohaa
