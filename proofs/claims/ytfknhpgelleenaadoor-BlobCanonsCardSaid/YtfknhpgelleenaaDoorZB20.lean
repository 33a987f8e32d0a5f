/- What a claim leans on, part 20, cut by a program out of the texts WName. -/
import Derived.Handy
import Derived.Test.YtfknhpgelleenaaDoorZB4
import Derived.Test.YtfknhpgelleenaaDoorZB17
section
namespace Go.Proofs.YtfknhpgelleenaaDoor.K
open Go Go.RowKit Go.Proofs.YtfknhpgelleenaaDoorW.PrintWords Go.Proofs.YtfknhpgelleenaaDoorW.PrintLast Go.Proofs.YtfknhpgelleenaaDoorW.PrintMore
set_option linter.unusedVariables false
set_option linter.unusedSimpArgs false
open Go.Proofs.YtfknhpgelleenaaDoor.MShape (Sh isKind)
attribute [local go_sem] undef
/-- A kind's name. -/
def nm (k : Int) : ByteArray := if k = 1 then ⟨#[80, 79, 73, 78, 84]⟩ else if k = 2 then ⟨#[76, 73, 78, 69, 83, 84, 82, 73, 78, 71]⟩ else if k = 3 then ⟨#[80, 79, 76, 89, 71, 79, 78]⟩ else if k = 4 then ⟨#[77, 85, 76, 84, 73, 80, 79, 73, 78, 84]⟩ else if k = 5 then ⟨#[77, 85, 76, 84, 73, 76, 73, 78, 69, 83, 84, 82, 73, 78, 71]⟩ else if k = 6 then ⟨#[77, 85, 76, 84, 73, 80, 79, 76, 89, 71, 79, 78]⟩ else if k = 7 then ⟨#[71, 69, 79, 77, 69, 84, 82, 89, 67, 79, 76, 76, 69, 67, 84, 73, 79, 78]⟩ else ⟨#[]⟩
/-- A kind's part. -/
def prt (k : Int) : Int := if k = 3 then 0 else if k = 4 then 1 else if k = 5 then 2 else if k = 6 then 3 else -1
theorem isKind_iff (k : Int) : isKind k = true ↔ 1 ≤ k ∧ k ≤ 7 := by unfold isKind; simp
theorem nm_none {k : Int} (h : isKind k = false) : nm k = ⟨#[]⟩ := by
  have h : ¬ (1 ≤ k ∧ k ≤ 7) := fun hh => by rw [(isKind_iff k).2 hh] at h; cases h
  unfold nm
  rw [if_neg (by omega), if_neg (by omega), if_neg (by omega), if_neg (by omega), if_neg (by omega), if_neg (by omega), if_neg (by omega)]
theorem prt_none {k : Int} (h : isKind k = false) : prt k = -1 := by
  have h : ¬ (1 ≤ k ∧ k ≤ 7) := fun hh => by rw [(isKind_iff k).2 hh] at h; cases h
  unfold prt
  rw [if_neg (by omega), if_neg (by omega), if_neg (by omega), if_neg (by omega)]
set_option maxHeartbeats 2000000 in
set_option maxRecDepth 100000 in
theorem name_calls (k : Int) (w : World) (hF : FormsAt w) : Calls Tryd.prog 24 #[.int .i64 k] w fun e w' => e = .returned (.string (nm k)) ∧ w = w' := by
  obtain ⟨t0, t1, t2, t3, t4, t5, t6, t7, t8, t9, t10, t11, t12, t13, t14, t15⟩ := hF
  cases hk : isKind k
  · rw [nm_none hk]
    have HI := Lib.hid (fun w => isKind_calls k w _ hk)
    clear hk t0 t1 t2 t3 t4 t5 t6 t7 t8 t9 t10 t11 t12 t13 t14 t15
    go_enter Tryd.func24, Tryd.ntmps24
    go_wp2_with (go_at_call 54; refine (HI.out _).mono ?_; rintro e w' ⟨rfl, rfl⟩)
    go_ret
    exact ⟨by rfl, rfl⟩
  · have h := (isKind_iff k).1 hk
    have HI := Lib.hid (fun w => isKind_calls k w _ hk)
    have hk : k = 1 ∨ k = 2 ∨ k = 3 ∨ k = 4 ∨ k = 5 ∨ k = 6 ∨ k = 7 := by omega
    clear h
    rcases hk with rfl | rfl | rfl | rfl | rfl | rfl | rfl
    all_goals
      unfold nm
      try simp only [if_true, if_false, Int.reduceEq, Int.reduceNeg]
      go_enter Tryd.func24, Tryd.ntmps24
      go_wp2_with (go_at_call 54; refine (HI.out _).mono ?_; rintro e w' ⟨rfl, rfl⟩)
      go_ret
      exact ⟨by rfl, rfl⟩
set_option maxHeartbeats 2000000 in
set_option maxRecDepth 100000 in
theorem part_calls (k : Int) (w : World) (hF : FormsAt w) : Calls Tryd.prog 26 #[.int .i64 k] w fun e w' => e = .returned (.int .i64 (prt k)) ∧ w = w' := by
  obtain ⟨t0, t1, t2, t3, t4, t5, t6, t7, t8, t9, t10, t11, t12, t13, t14, t15⟩ := hF
  cases hk : isKind k
  · rw [prt_none hk]
    have HI := Lib.hid (fun w => isKind_calls k w _ hk)
    clear hk t0 t1 t2 t3 t4 t5 t6 t7 t8 t9 t10 t11 t12 t13 t14 t15
    go_enter Tryd.func26, Tryd.ntmps26
    go_wp2_with (go_at_call 54; refine (HI.out _).mono ?_; rintro e w' ⟨rfl, rfl⟩)
    go_ret
    exact ⟨by rfl, rfl⟩
  · have h := (isKind_iff k).1 hk
    have HI := Lib.hid (fun w => isKind_calls k w _ hk)
    have hk : k = 1 ∨ k = 2 ∨ k = 3 ∨ k = 4 ∨ k = 5 ∨ k = 6 ∨ k = 7 := by omega
    clear h
    rcases hk with rfl | rfl | rfl | rfl | rfl | rfl | rfl
    all_goals
      unfold prt
      try simp only [if_true, if_false, Int.reduceEq, Int.reduceNeg]
      go_enter Tryd.func26, Tryd.ntmps26
      go_wp2_with (go_at_call 54; refine (HI.out _).mono ?_; rintro e w' ⟨rfl, rfl⟩)
      go_ret
      exact ⟨by rfl, rfl⟩
set_option maxHeartbeats 2000000 in
set_option maxRecDepth 100000 in
theorem rpart_calls (k : Int) (w : World) : Calls Tryd.prog 27 #[.int .i64 k] w fun e w' => e = .returned (.int .i64 (prt k)) ∧ w = w' := by
  unfold prt
  by_cases h3 : k = 3
  · subst h3
    try simp only [if_true, if_false, Int.reduceEq, Int.reduceNeg]
    go_enter Tryd.func27, Tryd.ntmps27
    go_wp2
    go_ret
    exact ⟨by rfl, rfl⟩
  rw [if_neg h3]
  by_cases h4 : k = 4
  · subst h4
    try simp only [if_true, if_false, Int.reduceEq, Int.reduceNeg]
    go_enter Tryd.func27, Tryd.ntmps27
    go_wp2
    go_ret
    exact ⟨by rfl, rfl⟩
  rw [if_neg h4]
  by_cases h5 : k = 5
  · subst h5
    try simp only [if_true, if_false, Int.reduceEq, Int.reduceNeg]
    go_enter Tryd.func27, Tryd.ntmps27
    go_wp2
    go_ret
    exact ⟨by rfl, rfl⟩
  rw [if_neg h5]
  by_cases h6 : k = 6
  · subst h6
    try simp only [if_true, if_false, Int.reduceEq, Int.reduceNeg]
    go_enter Tryd.func27, Tryd.ntmps27
    go_wp2
    go_ret
    exact ⟨by rfl, rfl⟩
  rw [if_neg h6]
  go_enter Tryd.func27, Tryd.ntmps27
  go_wp2
  go_ret
  exact ⟨by rfl, rfl⟩
end Go.Proofs.YtfknhpgelleenaaDoor.K
end
