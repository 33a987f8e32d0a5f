/- The law of layer 1 on how areas stand. -/
import Derived.Test.YtakkifedcbhgfaaDoorBase
import Derived.Handy
import Derived.Test.YtakkifedcbhgfaaDoorWLaw01
namespace Go.Proofs.YtakkifedcbhgfaaDoor.K
open Go Go.RowKit Go.Proofs.YtakkifedcbhgfaaDoorW.PrintWords Go.Proofs.YtakkifedcbhgfaaDoorW.PrintLast Go.Proofs.YtakkifedcbhgfaaDoorW.PrintMore
set_option linter.unusedVariables false
set_option linter.unusedSimpArgs false
open Go.Proofs.YtakkifedcbhgfaaDoor.MWide (bt W64 U192 addV subV addOk subOk cry sumO bor difO cmpV width)
open Go.Proofs.YtakkifedcbhgfaaDoor.MText (padD dec strip)
set_option maxHeartbeats 1000000 in
set_option maxRecDepth 100000 in
theorem WideOrder_calls {w : World} (a : Int) (ha : (Lit.int .i64 a).wf = true) (b : Int) (hb : (Lit.int .i64 b).wf = true) (c : Int) (hc : (Lit.int .i64 c).wf = true) :
    Calls Tryd.prog 5 #[.int .i64 a, .int .i64 b, .int .i64 c] w fun e w' => e = .returned (.bool true) ∧ Below w.heap.size w w' := by
  have ha' := wf_i64 ha
  have hb' := wf_i64 hb
  have hc' := wf_i64 hc
  have HL := Lib.hid lives01
  by_cases h1 : b < a
  · clear ha hb hc
    go_enter Tryd.func5, Tryd.ntmps5
    go_wp2_with (go_at_call 19; refine (HL.out _).mono ?_; rintro e w5 ⟨rfl, hb5⟩)
    go_ret
    exact ⟨rfl, hb5⟩
  by_cases h2 : c < b
  · clear ha hb hc
    go_enter Tryd.func5, Tryd.ntmps5
    go_wp2_with (go_at_call 19; refine (HL.out _).mono ?_; rintro e w5 ⟨rfl, hb5⟩)
    go_ret
    exact ⟨rfl, hb5⟩
  obtain ⟨x, hx, hx0⟩ : ∃ x, spanV a b = x ∧ x = b - a := ⟨_, rfl, by unfold spanV; rw [if_neg h1]⟩
  obtain ⟨y, hy, hy0⟩ : ∃ y, spanV b c = y ∧ y = c - b := ⟨_, rfl, by unfold spanV; rw [if_neg h2]⟩
  obtain ⟨z, hz, hz0⟩ : ∃ z, spanV a c = z ∧ z = c - a := ⟨_, rfl, by unfold spanV; rw [if_neg (by omega)]⟩
  have hX : W64 x := by unfold W64; omega
  have hY : W64 y := by unfold W64; omega
  have hZ : W64 z := by unfold W64; omega
  have HS1 := Lib.hid (fun w => Span_calls a b ha'.1 ha'.2 hb'.1 hb'.2 w)
  have HS2 := Lib.hid (fun w => Span_calls b c hb'.1 hb'.2 hc'.1 hc'.2 w)
  have HS3 := Lib.hid (fun w => Span_calls a c ha'.1 ha'.2 hc'.1 hc'.2 w)
  rw [hx] at HS1
  rw [hy] at HS2
  rw [hz] at HS3
  have HO1 := Lib.hid (fun w => Of_calls x hX w)
  have HO2 := Lib.hid (fun w => Of_calls y hY w)
  have HO3 := Lib.hid (fun w => Of_calls z hZ w)
  have hk : addOk x y = true := by unfold addOk; rw [decide_eq_true_eq]; unfold W64 at *; omega
  have hv : addV x y = z := by unfold addV; rw [if_pos hk]; omega
  have HA := Lib.hid (fun w => Add_calls x y w (MWide.u64_u hX) (MWide.u64_u hY))
  rw [hk, hv] at HA
  have HT1 := Lib.hid (fun w => Times_calls x z hX hZ w)
  have HT2 := Lib.hid (fun w => Times_calls z z hZ hZ w)
  have HC := Lib.hid (fun w => Cmp_calls (x * z) (z * z) w (MWide.u_mul hX hZ) (MWide.u_mul hZ hZ))
  have hle : x * z ≤ z * z := Int.mul_le_mul_of_nonneg_right (by omega) hZ.1
  have hcv : cmpV (x * z) (z * z) ≤ 0 := by unfold cmpV; split <;> (try split) <;> omega
  obtain ⟨cv, hcv1⟩ : ∃ cv, cmpV (x * z) (z * z) = cv := ⟨_, rfl⟩
  rw [hcv1] at HC hcv
  have q1 := eqU26 z
  have HXX := Lib.hid hX
  have HZZ := Lib.hid hZ
  clear ha hb hc ha' hb' hc' hx hx0 hy hy0 hz hz0 hX hY hZ hk hv hle hcv1
  go_enter Tryd.func5, Tryd.ntmps5
  go_upto_region 3 with (fail)
  go_wp2_with fail
  refine (HS1.out _).mono ?_
  rintro e w' ⟨rfl, rfl⟩
  go_wp2_with fail
  refine (HS2.out _).mono ?_
  rintro e w' ⟨rfl, rfl⟩
  go_wp2_with fail
  refine (HO1.out _).mono ?_
  rintro e w1 ⟨rfl, hb1⟩
  go_wp2_with fail
  refine (HO2.out _).mono ?_
  rintro e w2 ⟨rfl, hb2⟩
  go_wp2_with fail
  refine (HA.out _).mono ?_
  rintro e w3 ⟨rfl, hb3⟩
  have HB3 := Lib.hid (bthen (bthen hb1 hb2) hb3)
  clear hb1 hb2 hb3
  go_wp2_with fail
  refine (HS3.out _).mono ?_
  rintro e w' ⟨rfl, rfl⟩
  have hg := Blk.new w3 #[.int .u64 (MWide.w0 z), .int .u64 (MWide.w1 z), .int .u64 (MWide.w2 z)] 26
  have HB4 := Lib.hid ((HB3.out).alloc HB3.out.size (.cells #[.int .u64 (MWide.w0 z), .int .u64 (MWide.w1 z), .int .u64 (MWide.w2 z)] 26))
  obtain ⟨w4, hw4⟩ : ∃ w4, w3.alloc (.cells #[.int .u64 (MWide.w0 z), .int .u64 (MWide.w1 z), .int .u64 (MWide.w2 z)] 26) = w4 := ⟨_, rfl⟩
  rw [hw4] at hg HB4 ⊢
  clear hw4
  obtain ⟨g0, g1, g2⟩ := hg.cells3
  go_upto_region 6 with (fail)
  go_region_held3 (fun w' => w'.cell? ⟨w3.heap.size, 0, none⟩ = some (.int .u64 (MWide.w0 z)) ∧ w'.cell? ⟨w3.heap.size, 1, none⟩ = some (.int .u64 (MWide.w1 z)) ∧ w'.cell? ⟨w3.heap.size, 2, none⟩ = some (.int .u64 (MWide.w2 z)) ∧ Bel w4 w') (first | exact kc3 hb (by assumption) | exact ⟨g0, g1, g2, Bel.drew _⟩)
    (first
      | (go_at_call 19; refine (HL.out _).mono ?_; rintro e w' ⟨rfl, hb⟩)
      | (go_at_call 25; refine (HC.out _).mono ?_; rintro e w' ⟨rfl, hb⟩)
      | (go_at_call 18; refine (HO3.out _).mono ?_; rintro e w' ⟨rfl, hb⟩)
      | (go_at_call 14; refine (Times_calls _ _ (by first | exact HXX.out | exact HZZ.out) HZZ.out _).mono ?_; rintro e w' ⟨rfl, hb⟩))
  rename_i hheld
  have HBf := Lib.hid (bthen HB4.out hheld.2.2.2)
  go_wp2
  go_ret
  exact ⟨rfl, HBf.out⟩

end Go.Proofs.YtakkifedcbhgfaaDoor.K
