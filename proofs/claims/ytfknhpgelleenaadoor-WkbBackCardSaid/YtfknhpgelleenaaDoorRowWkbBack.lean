/- The law WkbBack answers true at every input, and its arguments read afterwards as they read before. Conditions: those of the row. -/
import Derived.Test.YtfknhpgelleenaaDoorRows
import Derived.Test.YtfknhpgelleenaaDoorCards
import Derived.Test.YtfknhpgelleenaaDoorTie
import Derived.LaidMore
import Derived.Lay
import Derived.SevenTiedAt
import Derived.Stop.Joined
import Derived.Test.YtfknhpgelleenaaDoorWLaw14d
import Derived.Test.YtfknhpgelleenaaDoorWForms
import Derived.Test.YtfknhpgelleenaaDoorWForms2
import Derived.Test.YtfknhpgelleenaaDoorKB
import Derived.WalkKit
import Derived.ProofKit
import Derived.OpenShut
import Derived.ShutString
import Derived.ChangeOld
import Derived.Below
import Derived.SizedLaws
import Derived.KernelRfl
namespace Go.Proofs.YtfknhpgelleenaaDoor.wkbBack
open Go.ChangeShapes Go.WideShapes Go.ChangeAt Go.RowKit Go.Proofs.YtfknhpgelleenaaDoor.Open Go.Proofs.YtfknhpgelleenaaDoorW.PrintWords
open Go.ChangeMaps (open_string shut_string)
set_option linter.unusedVariables false
theorem own : ownKnob Tryd.prog.godebug = none := by kernel_rfl
theorem laidOut : laidOutB Tryd.prog = true := by kernel_rfl
set_option maxRecDepth 100000 in
theorem opens62 : Opens Tryd.prog 62 (Kd.pair (Kd.slice 5 (Kd.int .u8)) (Kd.slice 5 (Kd.int .u8))) (fun x => (fun xs => (∀ x ∈ xs, (fun n => (Lit.int .u8 n).wf = true) x) ∧ xs.length ≤ 9223372036854775807) x.1 ∧ (fun xs => (∀ x ∈ xs, (fun n => (Lit.int .u8 n).wf = true) x) ∧ xs.length ≤ 9223372036854775807) x.2) := (opens_array Tryd.underlying62 (by kernel_rfl) (opF_cons (a := (Kd.slice 5 (Kd.int .u8))) (b := (Kd.slice 5 (Kd.int .u8))) (Qa := (fun xs => (∀ x ∈ xs, (fun n => (Lit.int .u8 n).wf = true) x) ∧ xs.length ≤ 9223372036854775807)) (Qb := (fun xs => (∀ x ∈ xs, (fun n => (Lit.int .u8 n).wf = true) x) ∧ xs.length ≤ 9223372036854775807)) (by kernel_rfl) (by kernel_rfl) (opens_slice Tryd.underlying49 (by kernel_rfl) (opens_int Tryd.underlying5)) (opF_one (d := (Kd.slice 5 (Kd.int .u8))) (Q := (fun xs => (∀ x ∈ xs, (fun n => (Lit.int .u8 n).wf = true) x) ∧ xs.length ≤ 9223372036854775807)) (by kernel_rfl) (by kernel_rfl) (opens_slice Tryd.underlying49 (by kernel_rfl) (opens_int Tryd.underlying5)))))
set_option maxRecDepth 100000 in
theorem lifted (os : Os) (started : os.Started) (H : Type) (enc : TypeId × Value → H) :
    ReturnsInHanded {} Tryd.checked os 11 .any (fun w args => (Rows.wkbBackSpec.pre enc Tryd.prog Tryd.f11 Rows.wkbBackRow.domain false w args ∧ laidMetH Tryd.prog Rows.wkbBackRow.laid w) ∧ sizedMet enc Tryd.prog Tryd.f11 (OpenSpec.ofChange Rows.wkbBackSpec) false w args)
      (Rows.wkbBackSpec.post enc Tryd.prog Tryd.f11 false true false false) := by
  refine returnsInHanded_of_change_and (C := Tryd.checked) (X := fun w _ => laidMetH Tryd.prog Rows.wkbBackRow.laid w) (fun _ _ _ hh h => h.of_heap hh) own started (by kernel_rfl) Tryd.func11
    (ChangeSpec.witness_shaped (enc := enc) (C := Tryd.checked) (os := os) (X := fun w _ => laidMetH Tryd.prog Rows.wkbBackRow.laid w) false (World.laidAll Tryd.prog os Rows.wkbBackRow.laid) #[.agg #[.int .i64 0, .slice none 0 0, .slice none 0 0], .bool false, .agg #[.slice none 0 0, .slice none 0 0]] 8 (World.laidAll_os _ _ _)
      (World.shaped_of_ZipB (by kernel_rfl) (by kernel_rfl)) (by kernel_rfl) (by kernel_rfl) (by kernel_rfl)
      (by rw [MakeChecks.laidMetH_plain _ _ _ (by kernel_rfl)]; exact laidMet_laidAll _ (by kernel_rfl) (by kernel_rfl))) ?_
  intro W base args ds gs before hval0 hW _ _ hL _
  rw [MakeChecks.laidMetH_plain _ _ _ (by kernel_rfl)] at hL
  obtain ⟨ps9, hv9, _⟩ := hL
  obtain ⟨hN9, hs9⟩ := Go.Proofs.YtfknhpgelleenaaDoor.K.now_of_vars hv9
  obtain ⟨hF9, -⟩ := Go.Proofs.YtfknhpgelleenaaDoor.K.forms_of_vars hv9
  have hval : ∀ (j : Nat) t v, Tryd.f11.params[j]? = some t → args[j]? = some v → Value.okWide Tryd.prog W .any base t v := hval0
  have hW' := hW
  obtain ⟨p, q, hA0, hV, rfl, hfz, hnd⟩ := hW
  have hA : DataW.TrodAll enc Tryd.prog W 0 (fun _ => true) true Tryd.f11.params.toList args.toList ds p := hA0
  rw [Tryd.params11] at hA hval
  obtain ⟨v0, vs0, d0, ds0, p0, q0, hargs, rfl, rfl, h0, r0⟩ := trodAll_cons hA
  obtain ⟨v1, vs1, d1, ds1, p1, q1, rfl, rfl, rfl, h1, r1⟩ := trodAll_cons r0
  obtain ⟨v2, vs2, d2, ds2, p2, q2, rfl, rfl, rfl, h2, r2⟩ := trodAll_cons r1
  obtain ⟨rfl, rfl, rfl⟩ := trodAll_nil r2
  obtain rfl : args = #[v0, v1, v2] := by cases args; simp_all
  obtain ⟨rfl, rfl⟩ := trodVars_none hV
  have k0 := h0
  have lt0 : ∀ x ∈ p0, x.block < W.heap.size := by obtain ⟨m, hm⟩ := k0; exact DataW.trod_lt m _ _ _ hm
  obtain ⟨fu0, hf0⟩ := h0
  obtain ⟨x0, hx0, hq0⟩ := Go.Proofs.YtfknhpgelleenaaDoor.K.opens_shape _ _ _ _ _ _ hf0
  obtain ⟨cs0, rfl, _⟩ := okWide_struct Tryd.underlying25 (hval 0 25 v0 rfl rfl)
  obtain ⟨b1, rfl, rfl, rfl⟩ := open_bool Tryd.underlying4 (hval 1 4 v1 rfl rfl) h1
  have k2 := h2
  have lt2 : ∀ x ∈ p2, x.block < W.heap.size := by obtain ⟨m, hm⟩ := k2; exact DataW.trod_lt m _ _ _ hm
  obtain ⟨fu2, hf2⟩ := h2
  obtain ⟨x2, hx2, hq2⟩ := opens62 _ _ _ _ _ _ hf2
  obtain ⟨cs2, rfl, _⟩ := okWide_array Tryd.underlying62 (hval 2 62 v2 rfl rfl)
  refine (Go.Proofs.YtfknhpgelleenaaDoor.K.WkbBack_calls cs0 x0 hx0 hq0 b1 cs2 x2 hx2 hq2.1.1 hq2.2.1 hs9 hF9 hN9).mono fun e W' ⟨he, bel⟩ => ?_
  subst he
  exact ⟨_, rfl, _, _, _, [], _, [], hW', trodAll_mk1 (shut_bool Tryd.underlying4 _), (trodAll_cons_mk (Below.trod laidOut (by kernel_rfl) (of_decide_eq_true (by kernel_rfl)) k0 bel lt0) (trodAll_cons_mk (shut_bool Tryd.underlying4 _) (trodAll_cons_mk (Below.trod laidOut (by kernel_rfl) (of_decide_eq_true (by kernel_rfl)) k2 bel lt2) trodAll_mk0))), rfl, bel.frame _, fun h => by cases h⟩
theorem over : Rows.wkbBackRow.holds Tryd.pinned (OpenSpec.ofChange Rows.wkbBackSpec) :=
  OpenClaim.holds_of_wide 11 Tryd.f11 rfl rfl rfl rfl rfl rfl rfl ⟨rfl, rfl, rfl, rfl, rfl⟩ rfl rfl rfl rfl rfl (by kernel_rfl) Tryd.func11 (by kernel_rfl)
    (of_decide_eq_true (by kernel_rfl)) (by unfold Func.isWrapper; first | (rw [if_pos (by decide +kernel)]; kernel_rfl) | (rw [if_neg (by decide +kernel)]; exact ⟨rfl, rfl⟩))
    (fun os started H enc _ => lifted os started H enc)
theorem proved : Rows.WkbBackCardSaid :=
  Claim7.holds_tied_plain_at .later [] [.data, .data] true (true, "fb9c79e342d7b64b37e47c6895211a8de9ad558d65cf6289a121672f66989b8c") true over (fun _ h => by cases h) (by kernel_rfl) (fun _ h => by cases h) wkbBack_row_tie rfl ⟨rfl, rfl⟩ (by kernel_rfl) rfl
    (fun f fn hf hfn => by
      obtain rfl : f = 11 := Option.some.inj ((show Tryd.prog.funcNamed "hachure/hachurelaw14.WkbBack" = some 11 by kernel_rfl).symm.trans hf) |>.symm
      obtain rfl : fn = Tryd.f11 := (Option.some.inj (Tryd.func11.symm.trans hfn)).symm
      exact ⟨by kernel_rfl, fun j t ht => by
        rw [Tryd.params11] at ht
        have hm : t ∈ [25, 4, 62] := by simpa using Array.mem_of_getElem? ht
        have hall : ([25, 4, 62].all fun u => !Tryd.prog.wantsStandIn u) = true := by kernel_rfl
        exact (show Tryd.prog.wantsStandIn t = false by simpa using List.all_eq_true.1 hall t hm)⟩)
    (by kernel_rfl)
#print axioms proved
end Go.Proofs.YtfknhpgelleenaaDoor.wkbBack
namespace Go.Proofs.YtfknhpgelleenaaDoor
/-- The card, under a short name, for the claim. -/
theorem wkbBack_holds : Rows.WkbBackCardSaid := wkbBack.proved
end Go.Proofs.YtfknhpgelleenaaDoor
