/- How wide numbers stand, and how many bits they have. -/
import Derived.Test.YtakkifedcbhgfaaDoorBase
import Derived.Handy
import Derived.Test.YtakkifedcbhgfaaDoorWWide6
namespace Go.Proofs.YtakkifedcbhgfaaDoor.K
open Go Go.RowKit Go.Proofs.YtakkifedcbhgfaaDoorW.PrintWords Go.Proofs.YtakkifedcbhgfaaDoorW.PrintLast Go.Proofs.YtakkifedcbhgfaaDoorW.PrintMore
set_option linter.unusedVariables false
set_option linter.unusedSimpArgs false
open Go.Proofs.YtakkifedcbhgfaaDoor.MWide (bt W64 U192 addV subV addOk subOk cry sumO bor difO cmpV width)
theorem width_64 {x : Int} (h : W64 x) : 0 ≤ width x ∧ width x ≤ 64 := by
  have h0 : 0 ≤ width x := by unfold width; split <;> omega
  refine ⟨h0, ?_⟩
  by_cases hx : 0 < x
  · obtain ⟨h1, _, h3⟩ := MWide.width_pos hx
    rcases Int.lt_or_le 64 (width x) with hc | hc
    · have hm : (2 : Int) ^ 64 ≤ 2 ^ (width x - 1).toNat := MWide.p2_mono (by omega)
      have := h.2
      rw [show (2 : Int) ^ 64 = 18446744073709551616 from rfl] at hm
      omega
    · exact hc
  · unfold width; rw [if_pos (by omega)]; omega
theorem isNaN_calls (x : Int) (w : World) : Calls Tryd.prog 95 #[.int .u64 x] w fun e w' => e = .returned (.bool false) ∧ w = w' := by
  go_enter Tryd.func95, Tryd.ntmps95
  go_wp2
  go_ret
  exact ⟨by simp, rfl⟩
theorem Compare_calls (x y : Int) (w : World) : Calls Tryd.prog 69 #[.int .u64 x, .int .u64 y] w fun e w' => e = .returned (.int .i64 (cmpV x y)) ∧ w = w' := by
  have HN := Lib.hid isNaN_calls
  rcases Int.lt_trichotomy x y with h | h | h
  · have b1 : decide (x < y) = true := decide_eq_true h
    have HV : Hid (cmpV x y = -1) := Lib.hid (by unfold cmpV; rw [if_pos h])
    clear h
    go_enter Tryd.func69, Tryd.ntmps69
    go_wp2_with (go_at_call 95; refine (HN.out _ _).mono ?_; rintro e w' ⟨rfl, rfl⟩)
    go_ret
    exact ⟨by rw [HV.out]; rfl, rfl⟩
  · have b1 : decide (x < y) = false := decide_eq_false (by omega)
    have b2 : decide (y < x) = false := decide_eq_false (by omega)
    have HV : Hid (cmpV x y = 0) := Lib.hid (by unfold cmpV; rw [if_neg (by omega), if_pos h])
    clear h
    go_enter Tryd.func69, Tryd.ntmps69
    go_wp2_with (go_at_call 95; refine (HN.out _ _).mono ?_; rintro e w' ⟨rfl, rfl⟩)
    go_ret
    exact ⟨by rw [HV.out]; rfl, rfl⟩
  · have b1 : decide (x < y) = false := decide_eq_false (by omega)
    have b2 : decide (y < x) = true := decide_eq_true h
    have HV : Hid (cmpV x y = 1) := Lib.hid (by unfold cmpV; rw [if_neg (by omega), if_neg (by omega)])
    clear h
    go_enter Tryd.func69, Tryd.ntmps69
    go_wp2_with (go_at_call 95; refine (HN.out _ _).mono ?_; rintro e w' ⟨rfl, rfl⟩)
    go_ret
    exact ⟨by rw [HV.out]; rfl, rfl⟩
/-- The first that is not 0. -/
def or3 (x y z : Int) : Int := if x ≠ 0 then x else if y ≠ 0 then y else z
def or2 (x y : Int) : Int := if x ≠ 0 then x else y
set_option maxHeartbeats 1000000 in
theorem Or3_calls (x y z : Int) (g : Nat) (w : World) (hx : w.cell? ⟨g, 0, none⟩ = some (.int .i64 x)) (hy : w.cell? ⟨g, 1, none⟩ = some (.int .i64 y)) (hz : w.cell? ⟨g, 2, none⟩ = some (.int .i64 z)) :
    Calls Tryd.prog 68 #[.slice (some ⟨g, 0, none⟩) 3 3] w fun e w' => e = .returned (.int .i64 (or3 x y z)) ∧ w = w' := by
  by_cases h0 : x ≠ 0
  · have b1 : (x != 0) = true := by simpa using h0
    have HV : Hid (or3 x y z = x) := Lib.hid (by unfold or3; rw [if_pos h0])
    clear h0
    go_enter Tryd.func68, Tryd.ntmps68
    go_wp2
    refine wp_loop_rounds 4 ?_
    rw [rounds_succ]
    go_wp2
    go_ret
    exact ⟨by rw [HV.out]; rfl, rfl⟩
  · have b1 : (x != 0) = false := by simpa using h0
    by_cases h1 : y ≠ 0
    · have b2 : (y != 0) = true := by simpa using h1
      have HV : Hid (or3 x y z = y) := Lib.hid (by unfold or3; rw [if_neg h0, if_pos h1])
      clear h0 h1
      go_enter Tryd.func68, Tryd.ntmps68
      go_wp2
      refine wp_loop_rounds 4 ?_
      rw [rounds_succ]
      go_wp2
      rw [rounds_succ]
      go_wp2
      go_ret
      exact ⟨by rw [HV.out]; rfl, rfl⟩
    · have b2 : (y != 0) = false := by simpa using h1
      have HV : Hid (or3 x y z = z) := Lib.hid (by unfold or3; rw [if_neg h0, if_neg h1])
      clear h0 h1
      by_cases h2 : z ≠ 0
      · have b3 : (z != 0) = true := by simpa using h2
        clear h2
        go_enter Tryd.func68, Tryd.ntmps68
        go_wp2
        refine wp_loop_rounds 4 ?_
        rw [rounds_succ]
        go_wp2
        rw [rounds_succ]
        go_wp2
        rw [rounds_succ]
        go_wp2
        go_ret
        exact ⟨by rw [HV.out]; rfl, rfl⟩
      · have b3 : (z != 0) = false := by simpa using h2
        have hz0 : z = 0 := by omega
        have HZ := Lib.hid hz0
        clear h2 hz0
        go_enter Tryd.func68, Tryd.ntmps68
        go_wp2
        refine wp_loop_rounds 4 ?_
        rw [rounds_succ]
        go_wp2
        rw [rounds_succ]
        go_wp2
        rw [rounds_succ]
        go_wp2
        rw [rounds_succ]
        go_wp2
        go_ret
        exact ⟨by rw [HV.out, HZ.out]; rfl, rfl⟩
theorem cmp_or {a b : Int} (ha : U192 a) (hb : U192 b) : cmpV a b = or3 (cmpV (MWide.w2 a) (MWide.w2 b)) (cmpV (MWide.w1 a) (MWide.w1 b)) (cmpV (MWide.w0 a) (MWide.w0 b)) := MWide.cmp_words ha hb
set_option maxHeartbeats 1000000 in
set_option maxRecDepth 100000 in
theorem Cmp_calls (a b : Int) (w : World) (ha : U192 a) (hb : U192 b) :
    Calls Tryd.prog 25 #[.agg #[.int .u64 (MWide.w0 a), .int .u64 (MWide.w1 a), .int .u64 (MWide.w2 a)], .agg #[.int .u64 (MWide.w0 b), .int .u64 (MWide.w1 b), .int .u64 (MWide.w2 b)]] w fun e w' => e = .returned (.int .i64 (cmpV a b)) ∧ Bel w w' := by
  have HV := Lib.hid (cmp_or ha hb)
  have HC := Lib.hid Compare_calls
  clear ha hb
  go_enter Tryd.func25, Tryd.ntmps25
  go_wp2
  go_region_held3 (fun w' => w'.cell? ⟨w.heap.size, 0, none⟩ = some (.int .u64 (MWide.w0 a)) ∧ w'.cell? ⟨w.heap.size, 1, none⟩ = some (.int .u64 (MWide.w1 a)) ∧ w'.cell? ⟨w.heap.size, 2, none⟩ = some (.int .u64 (MWide.w2 a)) ∧ w'.cell? ⟨w.heap.size + 1, 0, none⟩ = some (.int .u64 (MWide.w0 b)) ∧ w'.cell? ⟨w.heap.size + 1, 1, none⟩ = some (.int .u64 (MWide.w1 b)) ∧ w'.cell? ⟨w.heap.size + 1, 2, none⟩ = some (.int .u64 (MWide.w2 b))) (simp [go_sem, World.cell?_alloc_past])
    (first | (go_at_call 69; refine (HC.out _ _ _).mono ?_; rintro e w' ⟨rfl, rfl⟩) | (go_at_call 68; refine (Or3_calls (cmpV (MWide.w2 a) (MWide.w2 b)) (cmpV (MWide.w1 a) (MWide.w1 b)) (cmpV (MWide.w0 a) (MWide.w0 b)) _ _ (by simp [go_sem]) (by simp [go_sem]) (by simp [go_sem])).mono ?_; rintro e w' ⟨rfl, rfl⟩))
  go_wp2
  go_ret
  exact ⟨by rw [HV.out]; rfl, by repeat (first | exact Below.refl _ _ | refine Below.drew ?_ | refine Below.alloc ?_ (by simp <;> omega) _)⟩
set_option maxHeartbeats 1000000 in
set_option maxRecDepth 100000 in
theorem Bits_calls (a : Int) (w : World) (ha : U192 a) :
    Calls Tryd.prog 39 #[.agg #[.int .u64 (MWide.w0 a), .int .u64 (MWide.w1 a), .int .u64 (MWide.w2 a)]] w fun e w' => e = .returned (.int .i64 (width a)) ∧ Bel w w' := by
  have HL := Lib.hid Len64_calls
  have h0 := MWide.w0_64 a; have h1 := MWide.w1_64 a; have h2 := MWide.w2_64 a
  have HW := Lib.hid (And.intro h0 (And.intro h1 h2))
  have r0 : 0 ≤ width (MWide.w0 a) ∧ width (MWide.w0 a) ≤ 64 := width_64 h0
  have r1 : 0 ≤ width (MWide.w1 a) ∧ width (MWide.w1 a) ≤ 64 := width_64 h1
  have r2 : 0 ≤ width (MWide.w2 a) ∧ width (MWide.w2 a) ≤ 64 := width_64 h2
  have hv := MWide.width_words ha
  clear ha
  by_cases c2 : 0 < MWide.w2 a
  · rw [if_pos c2] at hv
    have HV := Lib.hid hv
    clear hv h0 h1 h2
    go_enter Tryd.func39, Tryd.ntmps39
    go_wp2
    refine wp_loop_rounds 4 ?_
    rw [rounds_succ]
    go_wp2_with (go_at_call 79; refine (HL.out _ HW.out.2.2 _).mono ?_; rintro e w' ⟨rfl, rfl⟩)
    go_ret
    exact ⟨by rw [HV.out]; rfl, by repeat (first | exact Below.refl _ _ | refine Below.drew ?_ | refine Below.alloc ?_ (by simp <;> omega) _)⟩
  · rw [if_neg c2] at hv
    have e2 : MWide.w2 a = 0 := by unfold W64 at h2; omega
    by_cases c1 : 0 < MWide.w1 a
    · rw [if_pos c1] at hv
      have HV := Lib.hid hv
      clear hv h0 h1 h2 e2
      go_enter Tryd.func39, Tryd.ntmps39
      go_wp2
      refine wp_loop_rounds 4 ?_
      rw [rounds_succ]
      go_wp2
      rw [rounds_succ]
      go_wp2_with (go_at_call 79; refine (HL.out _ HW.out.2.1 _).mono ?_; rintro e w' ⟨rfl, rfl⟩)
      go_ret
      exact ⟨by rw [HV.out]; rfl, by repeat (first | exact Below.refl _ _ | refine Below.drew ?_ | refine Below.alloc ?_ (by simp <;> omega) _)⟩
    · rw [if_neg c1] at hv
      by_cases c0 : 0 < MWide.w0 a
      · have HV := Lib.hid hv
        clear hv h0 h1 h2 e2
        go_enter Tryd.func39, Tryd.ntmps39
        go_wp2
        refine wp_loop_rounds 4 ?_
        rw [rounds_succ]
        go_wp2
        rw [rounds_succ]
        go_wp2
        rw [rounds_succ]
        go_wp2_with (go_at_call 79; refine (HL.out _ HW.out.1 _).mono ?_; rintro e w' ⟨rfl, rfl⟩)
        go_ret
        exact ⟨by rw [HV.out]; rfl, by repeat (first | exact Below.refl _ _ | refine Below.drew ?_ | refine Below.alloc ?_ (by simp <;> omega) _)⟩
      · have e0 : MWide.w0 a = 0 := by unfold W64 at h0; omega
        rw [e0] at hv
        have HV := Lib.hid hv
        clear hv h0 h1 h2 e2 e0
        go_enter Tryd.func39, Tryd.ntmps39
        go_wp2
        refine wp_loop_rounds 4 ?_
        rw [rounds_succ]
        go_wp2
        rw [rounds_succ]
        go_wp2
        rw [rounds_succ]
        go_wp2
        rw [rounds_succ]
        go_wp2
        go_ret
        exact ⟨by rw [HV.out]; rfl, by repeat (first | exact Below.refl _ _ | refine Below.drew ?_ | refine Below.alloc ?_ (by simp <;> omega) _)⟩

end Go.Proofs.YtakkifedcbhgfaaDoor.K
