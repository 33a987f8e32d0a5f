/- The law BlobLies answers true at every input, and its arguments read afterwards as they read before. Conditions: those of the row. -/
import Derived.Test.YtfknhpgelleenaaDoorRows
import Derived.Test.YtfknhpgelleenaaDoorCards
import Derived.Test.YtfknhpgelleenaaDoorTie
import Derived.LaidMore
import Derived.Lay
import Derived.SevenTiedAt
import Derived.Stop.Joined
import Derived.WalkKit
import Derived.ProofKit
import Derived.OpenShut
import Derived.ShutString
import Derived.ChangeOld
import Derived.Below
import Derived.SizedLaws
import Derived.KernelRfl
import Derived.Test.YtfknhpgelleenaaDoorZB4
import Derived.Test.YtfknhpgelleenaaDoorZB33
import Derived.Test.YtfknhpgelleenaaDoorZB34
import Derived.Test.YtfknhpgelleenaaDoorZB49
namespace Go.Proofs.YtfknhpgelleenaaDoor.blobLies
open Go.ChangeShapes Go.WideShapes Go.ChangeAt Go.RowKit Go.Proofs.YtfknhpgelleenaaDoor.Open Go.Proofs.YtfknhpgelleenaaDoorW.PrintWords
open Go.ChangeMaps (open_string shut_string)
set_option linter.unusedVariables false
theorem own : ownKnob Tryd.prog.godebug = none := by kernel_rfl
theorem laidOut : laidOutB Tryd.prog = true := by kernel_rfl
set_option maxRecDepth 100000 in
theorem opens53 : Opens Tryd.prog 53 (Kd.pair (Kd.int .i64) (Kd.pair Kd.bool Kd.bool)) (fun x => (fun n => (Lit.int .i64 n).wf = true) x.1 ∧ (fun x => (fun _ => True) x.1 ∧ (fun _ => True) x.2) x.2) := (opens_struct Tryd.underlying53 (by kernel_rfl) (opF_cons (a := (Kd.int .i64)) (b := (Kd.pair Kd.bool Kd.bool)) (Qa := (fun n => (Lit.int .i64 n).wf = true)) (Qb := (fun x => (fun _ => True) x.1 ∧ (fun _ => True) x.2)) (by kernel_rfl) (by kernel_rfl) (opens_int Tryd.underlying3) (opF_cons (a := Kd.bool) (b := Kd.bool) (Qa := (fun _ => True)) (Qb := (fun _ => True)) (by kernel_rfl) (by kernel_rfl) (opens_bool Tryd.underlying4) (opF_one (d := Kd.bool) (Q := (fun _ => True)) (by kernel_rfl) (by kernel_rfl) (opens_bool Tryd.underlying4)))))
set_option maxRecDepth 100000 in
theorem lifted (os : Os) (started : os.Started) (H : Type) (enc : TypeId × Value → H) :
    ReturnsInHanded {} Tryd.checked os 13 .any (fun w args => (Rows.blobLiesSpec.pre enc Tryd.prog Tryd.f13 Rows.blobLiesRow.domain false w args ∧ laidMetH Tryd.prog Rows.blobLiesRow.laid w) ∧ sizedMet enc Tryd.prog Tryd.f13 (OpenSpec.ofChange Rows.blobLiesSpec) false w args)
      (Rows.blobLiesSpec.post enc Tryd.prog Tryd.f13 false true false false) := by
  refine returnsInHanded_of_change_and (C := Tryd.checked) (X := fun w _ => laidMetH Tryd.prog Rows.blobLiesRow.laid w) (fun _ _ _ hh h => h.of_heap hh) own started (by kernel_rfl) Tryd.func13
    (ChangeSpec.witness_shaped (enc := enc) (C := Tryd.checked) (os := os) (X := fun w _ => laidMetH Tryd.prog Rows.blobLiesRow.laid w) false (World.laidAll Tryd.prog os Rows.blobLiesRow.laid) #[.agg #[.int .i64 0, .slice none 0 0, .slice none 0 0], .agg #[.int .i64 0, .bool false, .bool false], .int .u64 0] 8 (World.laidAll_os _ _ _)
      (World.shaped_of_ZipB (by kernel_rfl) (by kernel_rfl)) (by kernel_rfl) (by kernel_rfl) (by kernel_rfl)
      (by rw [MakeChecks.laidMetH_plain _ _ _ (by kernel_rfl)]; exact laidMet_laidAll _ (by kernel_rfl) (by kernel_rfl))) ?_
  intro W base args ds gs before hval0 hW _ _ hL _
  rw [MakeChecks.laidMetH_plain _ _ _ (by kernel_rfl)] at hL
  obtain ⟨ps9, hv9, _⟩ := hL
  obtain ⟨hN9, hs9⟩ := Go.Proofs.YtfknhpgelleenaaDoor.K.now_of_vars hv9
  obtain ⟨hF9, -⟩ := Go.Proofs.YtfknhpgelleenaaDoor.K.forms_of_vars hv9
  have hval : ∀ (j : Nat) t v, Tryd.f13.params[j]? = some t → args[j]? = some v → Value.okWide Tryd.prog W .any base t v := hval0
  have hW' := hW
  obtain ⟨p, q, hA0, hV, rfl, hfz, hnd⟩ := hW
  have hA : DataW.TrodAll enc Tryd.prog W 0 (fun _ => true) true Tryd.f13.params.toList args.toList ds p := hA0
  rw [Tryd.params13] at hA hval
  obtain ⟨v0, vs0, d0, ds0, p0, q0, hargs, rfl, rfl, h0, r0⟩ := trodAll_cons hA
  obtain ⟨v1, vs1, d1, ds1, p1, q1, rfl, rfl, rfl, h1, r1⟩ := trodAll_cons r0
  obtain ⟨v2, vs2, d2, ds2, p2, q2, rfl, rfl, rfl, h2, r2⟩ := trodAll_cons r1
  obtain ⟨rfl, rfl, rfl⟩ := trodAll_nil r2
  obtain rfl : args = #[v0, v1, v2] := by cases args; simp_all
  obtain ⟨rfl, rfl⟩ := trodVars_none hV
  have k0 := h0
  have lt0 : ∀ x ∈ p0, x.block < W.heap.size := by obtain ⟨m, hm⟩ := k0; exact DataW.trod_lt m _ _ _ hm
  obtain ⟨fu0, hf0⟩ := h0
  obtain ⟨x0, hx0, hq0⟩ := Go.Proofs.YtfknhpgelleenaaDoor.K.opens_shape _ _ _ _ _ _ hf0
  obtain ⟨cs0, rfl, _⟩ := okWide_struct Tryd.underlying25 (hval 0 25 v0 rfl rfl)
  have k1 := h1
  have lt1 : ∀ x ∈ p1, x.block < W.heap.size := by obtain ⟨m, hm⟩ := k1; exact DataW.trod_lt m _ _ _ hm
  obtain ⟨fu1, hf1⟩ := h1
  obtain ⟨x1, hx1, hq1⟩ := opens53 _ _ _ _ _ _ hf1
  obtain ⟨cs1, rfl, _⟩ := okWide_struct Tryd.underlying53 (hval 1 53 v1 rfl rfl)
  obtain ⟨a2, rfl, rfl, rfl, w2⟩ := open_int Tryd.underlying36 (hval 2 36 v2 rfl rfl) h2
  refine (Go.Proofs.YtfknhpgelleenaaDoor.K.BlobLies_calls cs0 x0 hx0 hq0 cs1 x1 hx1 a2 w2 hs9 hF9 hN9).mono fun e W' ⟨he, bel⟩ => ?_
  subst he
  exact ⟨_, rfl, _, _, _, [], _, [], hW', trodAll_mk1 (shut_bool Tryd.underlying4 _), (trodAll_cons_mk (Below.trod laidOut (by kernel_rfl) (of_decide_eq_true (by kernel_rfl)) k0 bel lt0) (trodAll_cons_mk (Below.trod laidOut (by kernel_rfl) (of_decide_eq_true (by kernel_rfl)) k1 bel lt1) (trodAll_cons_mk (shut_int Tryd.underlying36 w2) trodAll_mk0))), rfl, bel.frame _, fun h => by cases h⟩
theorem over : Rows.blobLiesRow.holds Tryd.pinned (OpenSpec.ofChange Rows.blobLiesSpec) :=
  OpenClaim.holds_of_wide 13 Tryd.f13 rfl rfl rfl rfl rfl rfl rfl ⟨rfl, rfl, rfl, rfl, rfl⟩ rfl rfl rfl rfl rfl (by kernel_rfl) Tryd.func13 (by kernel_rfl)
    (of_decide_eq_true (by kernel_rfl)) (by unfold Func.isWrapper; first | (rw [if_pos (by decide +kernel)]; kernel_rfl) | (rw [if_neg (by decide +kernel)]; exact ⟨rfl, rfl⟩))
    (fun os started H enc _ => lifted os started H enc)
theorem proved : Rows.BlobLiesCardSaid :=
  Claim7.holds_tied_plain_at .later [] [.data, .data] true (true, "fb9c79e342d7b64b37e47c6895211a8de9ad558d65cf6289a121672f66989b8c") true over (fun _ h => by cases h) (by kernel_rfl) (fun _ h => by cases h) blobLies_row_tie rfl ⟨rfl, rfl⟩ (by kernel_rfl) rfl
    (fun f fn hf hfn => by
      obtain rfl : f = 13 := Option.some.inj ((show Tryd.prog.funcNamed "hachure/hachurelaw16.BlobLies" = some 13 by kernel_rfl).symm.trans hf) |>.symm
      obtain rfl : fn = Tryd.f13 := (Option.some.inj (Tryd.func13.symm.trans hfn)).symm
      exact ⟨by kernel_rfl, fun j t ht => by
        rw [Tryd.params13] at ht
        have hm : t ∈ [25, 53, 36] := by simpa using Array.mem_of_getElem? ht
        have hall : ([25, 53, 36].all fun u => !Tryd.prog.wantsStandIn u) = true := by kernel_rfl
        exact (show Tryd.prog.wantsStandIn t = false by simpa using List.all_eq_true.1 hall t hm)⟩)
    (by kernel_rfl)
#print axioms proved
end Go.Proofs.YtfknhpgelleenaaDoor.blobLies
namespace Go.Proofs.YtfknhpgelleenaaDoor
/-- The card, under a short name, for the claim. -/
theorem blobLies_holds : Rows.BlobLiesCardSaid := blobLies.proved
end Go.Proofs.YtfknhpgelleenaaDoor
