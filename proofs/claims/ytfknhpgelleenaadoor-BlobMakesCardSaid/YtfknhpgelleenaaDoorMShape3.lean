/- The reference's word on which shapes may be is the program's. -/
import Derived.Test.YtfknhpgelleenaaDoorKM
namespace Go.Proofs.YtfknhpgelleenaaDoor.MShape
set_option linter.unusedVariables false
set_option linter.unusedSimpArgs false
def rfits (k : Int) (pts : List (Int × Int)) (n : Nat) : Bool :=
  if k = 0 then (decide (4 ≤ pts.length) && ends pts) && decide (n = 0) else if k = 1 then decide (pts.length ≤ 1) && decide (n = 0) else if k = 2 then !decide (pts.length = 1) && decide (n = 0) else (decide (3 ≤ k) && decide (k ≤ 7)) && decide (pts.length = 0)
def rpartOf (k : Int) : Int := if k = 3 then 0 else if k = 4 then 1 else if k = 5 then 2 else if k = 6 then 3 else -1
/-- May a part be in a shape of a kind? -/
def rp (k k' : Int) : Bool := if k = 7 then !decide (k' < 1) else if k < 7 then k' == rpartOf k else true
mutual
def rright : Sh → Bool
  | .mk k pts ps => rfits k pts ps.length && rrights k ps
def rrights (k : Int) : List Sh → Bool
  | [] => true
  | p :: ps => (rp k p.kind && rright p) && rrights k ps
end
theorem right_kind {s : Sh} (h : right s = true) : 0 ≤ s.kind ∧ s.kind ≤ 7 := by
  cases s with
  | mk k pts ps =>
    have h1 : own k pts = true := by
      unfold right at h
      simp only [Bool.and_eq_true] at h
      exact h.1
    show 0 ≤ k ∧ k ≤ 7
    unfold own isKind at h1
    by_cases e0 : k = 0
    · omega
    by_cases e1 : k = 1
    · omega
    by_cases e2 : k = 2
    · omega
    rw [if_neg e0, if_neg e1, if_neg e2] at h1
    simp only [Bool.and_eq_true, decide_eq_true_eq] at h1
    omega
theorem rp_fits {k k' : Int} (h3 : 3 ≤ k) (h7 : k ≤ 7) (hk : 0 ≤ k' ∧ k' ≤ 7) : rp k k' = fits k k' := by
  have hk : k = 3 ∨ k = 4 ∨ k = 5 ∨ k = 6 ∨ k = 7 := by omega
  rcases hk with rfl | rfl | rfl | rfl | rfl
  · simp [rp, fits, rpartOf, partOf]
  · simp [rp, fits, rpartOf, partOf]
  · simp [rp, fits, rpartOf, partOf]
  · simp [rp, fits, rpartOf, partOf]
  · simp only [rp, fits, partOf, isKind, if_true, if_false, Int.reduceEq]
    rw [Bool.eq_iff_iff]
    simp
    omega
mutual
theorem rright_eq : ∀ s : Sh, rright s = right s
  | .mk k pts ps => by
    have ih := rrights_eq ps
    have e1 : rright (.mk k pts ps) = (rfits k pts ps.length && rrights k ps) := by simp [rright]
    have e2 : right (.mk k pts ps) = (own k pts && rights k ps) := by simp [right]
    rw [e1, e2]
    by_cases h0 : k = 0 ∨ k = 1 ∨ k = 2
    · cases ps with
      | nil =>
        have r1 : rrights k [] = true := by simp [rrights]
        have r2 : rights k [] = true := by simp [rights]
        rw [r1, r2]
        rcases h0 with rfl | rfl | rfl <;> simp [rfits, own]
      | cons p l =>
        have f1 : rfits k pts (p :: l).length = false := by rcases h0 with rfl | rfl | rfl <;> simp [rfits]
        have f2 : (own k pts && rights k (p :: l)) = false := by
          cases hr : rights k (p :: l) with
          | false => simp
          | true =>
            exfalso
            have e3 : rights k (p :: l) = ((fits k p.kind && right p) && rights k l) := by simp [rights]
            rw [e3] at hr
            simp only [Bool.and_eq_true] at hr
            have := right_kind hr.1.2
            have hf := hr.1.1
            rcases h0 with rfl | rfl | rfl
            · simp [fits] at hf
            · simp [fits, partOf] at hf; omega
            · simp [fits, partOf] at hf; omega
        rw [f1, f2]; rfl
    · have e3 : rfits k pts ps.length = own k pts := by
        unfold rfits own isKind
        rw [if_neg (by omega), if_neg (by omega), if_neg (by omega), if_neg (by omega), if_neg (by omega), if_neg (by omega)]
        rw [Bool.eq_iff_iff]
        simp only [Bool.and_eq_true, decide_eq_true_eq]
        omega
      rw [e3]
      cases ho : own k pts with
      | false => simp
      | true =>
        have hk : 3 ≤ k ∧ k ≤ 7 := by
          unfold own isKind at ho
          rw [if_neg (by omega), if_neg (by omega), if_neg (by omega)] at ho
          simp only [Bool.and_eq_true, decide_eq_true_eq] at ho
          omega
        rw [ih k hk.1 hk.2]
theorem rrights_eq : ∀ (l : List Sh) (k : Int), 3 ≤ k → k ≤ 7 → rrights k l = rights k l
  | [], k, _, _ => by simp [rrights, rights]
  | p :: l, k, h3, h7 => by
    have i1 := rright_eq p
    have i2 := rrights_eq l k h3 h7
    have e1 : rrights k (p :: l) = ((rp k p.kind && rright p) && rrights k l) := by simp [rrights]
    have e2 : rights k (p :: l) = ((fits k p.kind && right p) && rights k l) := by simp [rights]
    rw [e1, e2, i1, i2]
    cases hr : right p with
    | false => simp
    | true => rw [rp_fits h3 h7 (right_kind hr)]
end
/-- The reference's order of the same checks. -/
theorem rcheck_eq (s : Sh) : (decide (s.kind < 1) || !rright s) = !(isKind s.kind && right s) := by
  rw [rright_eq]
  cases hr : right s with
  | false => simp
  | true =>
    have := right_kind hr
    rw [Bool.eq_iff_iff]
    simp [isKind]
    omega
end Go.Proofs.YtfknhpgelleenaaDoor.MShape
