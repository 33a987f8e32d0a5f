/- The laws of layer 1: products and spans. -/
import Derived.Test.YtakkifedcbhgfaaDoorBase
import Derived.Handy
import Derived.Test.YtakkifedcbhgfaaDoorWText
namespace Go.Proofs.YtakkifedcbhgfaaDoor.K
open Go Go.RowKit Go.Proofs.YtakkifedcbhgfaaDoorW.PrintWords Go.Proofs.YtakkifedcbhgfaaDoorW.PrintLast Go.Proofs.YtakkifedcbhgfaaDoorW.PrintMore
set_option linter.unusedVariables false
set_option linter.unusedSimpArgs false
open Go.Proofs.YtakkifedcbhgfaaDoor.MWide (bt W64 U192 addV subV addOk subOk cry sumO bor difO cmpV width)
open Go.Proofs.YtakkifedcbhgfaaDoor.MText (padD dec strip)
theorem u_calls (a : Int) (w : World) : Calls Tryd.prog 13 #[.agg #[.int .u64 (MWide.w0 a), .int .u64 (MWide.w1 a), .int .u64 (MWide.w2 a)]] w fun e w' => e = .returned (.agg #[.int .u64 (MWide.w0 a), .int .u64 (MWide.w1 a), .int .u64 (MWide.w2 a)]) ∧ Bel w w' := by
  go_enter Tryd.func13, Tryd.ntmps13
  go_wp2
  refine bodyPost_ret (v := .agg #[.int .u64 (MWide.w0 a), .int .u64 (MWide.w1 a), .int .u64 (MWide.w2 a)]) ?_ rfl ⟨rfl, by repeat (first | exact Below.refl _ _ | refine Below.drew ?_ | refine Below.alloc ?_ (by simp <;> omega) _)⟩
  simp [results, Tryd.results13, go_sem]
def nn : Int := 18446744073709551615
theorem dec_nn : strOfNums (dec (nn * nn)) = ⟨#[51, 52, 48, 50, 56, 50, 51, 54, 54, 57, 50, 48, 57, 51, 56, 52, 54, 51, 52, 50, 54, 52, 56, 49, 49, 49, 57, 50, 56, 52, 51, 52, 57, 49, 48, 56, 50, 50, 53]⟩ := by decide +kernel
set_option maxHeartbeats 1000000 in
set_option maxRecDepth 100000 in
theorem lives01 (w : World) : Calls Tryd.prog 19 #[] w fun e w' => e = .returned (.bool true) ∧ Bel w w' := by
  have h64 : W64 nn := ⟨by decide, by decide⟩
  have hs : spanV (-9223372036854775808) 9223372036854775807 = nn := by decide
  have HS : Hid (∀ w, Calls Tryd.prog 16 #[.int .i64 (-9223372036854775808), .int .i64 9223372036854775807] w fun e w' => e = .returned (.int .u64 nn) ∧ w = w') := Lib.hid (fun w => by
    have := Span_calls (-9223372036854775808) 9223372036854775807 (by decide) (by decide) (by decide) (by decide) w
    rw [hs] at this
    exact this)
  have HM : Hid (∀ w, Calls Tryd.prog 14 #[.int .u64 nn, .int .u64 nn] w fun e w' => e = .returned (.agg #[.int .u64 (MWide.w0 (nn * nn)), .int .u64 (MWide.w1 (nn * nn)), .int .u64 (MWide.w2 (nn * nn))]) ∧ Bel w w') := Lib.hid (fun w => Times_calls nn nn h64 h64 w)
  have HT : Hid (∀ w, Calls Tryd.prog 22 #[.agg #[.int .u64 (MWide.w0 (nn * nn)), .int .u64 (MWide.w1 (nn * nn)), .int .u64 (MWide.w2 (nn * nn))]] w fun e w' => e = .returned (.string ⟨#[51, 52, 48, 50, 56, 50, 51, 54, 54, 57, 50, 48, 57, 51, 56, 52, 54, 51, 52, 50, 54, 52, 56, 49, 49, 49, 57, 50, 56, 52, 51, 52, 57, 49, 48, 56, 50, 50, 53]⟩) ∧ Bel w w') := Lib.hid (fun w => by
    have := Text_calls (nn * nn) w (MWide.u_mul h64 h64)
    rw [dec_nn] at this
    exact this)
  have hn : (nn == 18446744073709551615) = true := by decide
  clear h64 hs
  go_enter Tryd.func19, Tryd.ntmps19
  go_wp2_with (first
    | (go_at_call 22; refine (HT.out _).mono ?_; rintro e w2 ⟨rfl, hb2⟩; have HB2 := Lib.hid hb2; clear hb2)
    | (go_at_call 14; refine (HM.out _).mono ?_; rintro e w1 ⟨rfl, hb1⟩; have HB1 := Lib.hid hb1; clear hb1)
    | (go_at_call 16; refine (HS.out _).mono ?_; rintro e w' ⟨rfl, rfl⟩))
  go_ret
  exact ⟨by rfl, bthen HB1.out HB2.out⟩
theorem eqU24 (a : Int) (w : World) : (binOp .eql 24 (.agg #[.int .u64 (MWide.w0 a), .int .u64 (MWide.w1 a), .int .u64 (MWide.w2 a)]) (.agg #[.int .u64 (MWide.w0 a), .int .u64 (MWide.w1 a), .int .u64 (MWide.w2 a)])).run Tryd.prog w = .ok (.bool true) w := by
  have := eq3 24 u24 (MWide.w0 a) (MWide.w1 a) (MWide.w2 a) (MWide.w0 a) (MWide.w1 a) (MWide.w2 a) w
  rw [this]; simp
theorem eqU26 (a : Int) (w : World) : (binOp .eql 26 (.agg #[.int .u64 (MWide.w0 a), .int .u64 (MWide.w1 a), .int .u64 (MWide.w2 a)]) (.agg #[.int .u64 (MWide.w0 a), .int .u64 (MWide.w1 a), .int .u64 (MWide.w2 a)])).run Tryd.prog w = .ok (.bool true) w := by
  have := eq3 26 u26 (MWide.w0 a) (MWide.w1 a) (MWide.w2 a) (MWide.w0 a) (MWide.w1 a) (MWide.w2 a) w
  rw [this]; simp
theorem eqU26_of {n : Int} (h : W64 n) (w : World) : (binOp .eql 26 (.agg #[.int .u64 (MWide.w0 n), .int .u64 (MWide.w1 n), .int .u64 (MWide.w2 n)]) (.agg #[.int .u64 n, .int .u64 0, .int .u64 0])).run Tryd.prog w = .ok (.bool true) w := by
  have := eqU26 n w
  rw [MWide.w0_64' h, MWide.w1_64' h, MWide.w2_64' h] at this ⊢
  exact this
theorem pair_cells {w : World} {k k' : IntKind} {x : Int × Int} {cs : Array Value} (h : (Kd.pair (Kd.int k) (Kd.int k')).K w x cs.toList) : cs = #[.int k x.1, .int k' x.2] := by
  obtain ⟨c1, c2, e, h1, h2⟩ := h
  obtain rfl : c1 = [.int k x.1] := h1
  obtain rfl : c2 = [.int k' x.2] := h2
  apply Array.toList_inj.1
  rw [e]
  rfl
theorem wf_i64 {n : Int} (h : (Lit.int .i64 n).wf = true) : -9223372036854775808 ≤ n ∧ n ≤ 9223372036854775807 := by
  have h1 : IntKind.i64.min = -9223372036854775808 := rfl
  have h2 : IntKind.i64.max = 9223372036854775807 := rfl
  simp only [Lit.wf, Bool.and_eq_true, decide_eq_true_eq] at h
  omega
theorem wf_u64 {n : Int} (h : (Lit.int .u64 n).wf = true) : W64 n := u64_wf h
set_option maxHeartbeats 1000000 in
set_option maxRecDepth 100000 in
theorem WideTimes_calls {w : World} (cs : Array Value) (p : Int × Int) (hK : (Kd.pair (Kd.int .u64) (Kd.int .u64)).K w p cs.toList) (hq : (Lit.int .u64 p.1).wf = true ∧ (Lit.int .u64 p.2).wf = true)
    (x : Int) (hx : (Lit.int .i64 x).wf = true) (y : Int) (hy : (Lit.int .i64 y).wf = true) :
    Calls Tryd.prog 3 #[.agg cs, .int .i64 x, .int .i64 y] w fun e w' => e = .returned (.bool true) ∧ Below w.heap.size w w' := by
  obtain rfl := pair_cells hK
  obtain ⟨a, b⟩ := p
  simp only at hq hK ⊢
  have ha := wf_u64 hq.1
  have hb := wf_u64 hq.2
  have hx' := wf_i64 hx
  have hy' := wf_i64 hy
  have HT := Lib.hid (fun w => Times_calls a b ha hb w)
  have HR := Lib.hid (fun w => refTimes_calls a b w ha hb)
  have HS := Lib.hid (fun w => Span_calls x y hx'.1 hx'.2 hy'.1 hy'.2 w)
  have HS2 := Lib.hid (fun w => refSpan_calls x y hx'.1 hx'.2 hy'.1 hy'.2 w)
  have HO := Lib.hid (fun w => Of_calls a ha w)
  have HL := Lib.hid lives01
  have HU := Lib.hid u_calls
  have q1 := eqU24 (a * b)
  have q2 := eqU26_of ha
  have q3 : (spanV x y == spanV x y) = true := beq_self_eq_true _
  clear ha hb hx hy hx' hy' hq hK
  go_enter Tryd.func3, Tryd.ntmps3
  go_wp2
  go_region
  go_wp2_with (first
    | (go_at_call 19; refine (HL.out _).mono ?_; rintro e w5 ⟨rfl, hb5⟩; have HB5 := Lib.hid (bthen HB4.out hb5); clear hb5)
    | (go_at_call 18; refine (HO.out _).mono ?_; rintro e w4 ⟨rfl, hb4⟩; have HB4 := Lib.hid (bthen HB3.out hb4); clear hb4)
    | (go_at_call 13; refine (HU.out _ _).mono ?_; rintro e w2 ⟨rfl, hb2⟩; have HB2 := Lib.hid (bthen HB1.out hb2); clear hb2)
    | (go_at_call 15; refine (HR.out _).mono ?_; rintro e w3 ⟨rfl, hb3⟩; have HB3 := Lib.hid (bthen HB2.out hb3); clear hb3)
    | (go_at_call 14; refine (HT.out _).mono ?_; rintro e w1 ⟨rfl, hb1⟩; have HB1 := Lib.hid hb1; clear hb1)
    | (go_at_call 16; refine (HS.out _).mono ?_; rintro e w' ⟨rfl, rfl⟩)
    | (go_at_call 17; refine (HS2.out _).mono ?_; rintro e w' ⟨rfl, rfl⟩))
  go_ret
  refine ⟨rfl, bthen ?_ HB5.out⟩
  repeat (first | exact Below.refl _ _ | refine Below.drew ?_ | refine Below.alloc ?_ (by simp <;> omega) _)

end Go.Proofs.YtakkifedcbhgfaaDoor.K
