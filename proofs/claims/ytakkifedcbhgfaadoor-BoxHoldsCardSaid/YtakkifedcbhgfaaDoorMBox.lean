/- Plain facts on boxes (layer 15): which may be, what is around two, what they share, their areas; no program and no memory. -/
import Derived.Test.YtakkifedcbhgfaaDoorMWide
namespace Go.Proofs.YtakkifedcbhgfaaDoor.MBox
open Go Go.Proofs.YtakkifedcbhgfaaDoor.MWide
set_option linter.unusedVariables false
set_option linter.unusedSimpArgs false

structure Bx where
  no : Bool
  lx : Int
  ly : Int
  hx : Int
  hy : Int
theorem Bx.ext' {a b : Bx} (h0 : a.no = b.no) (h1 : a.lx = b.lx) (h2 : a.ly = b.ly) (h3 : a.hx = b.hx) (h4 : a.hy = b.hy) : a = b := by
  cases a; cases b; simp_all
def I64 (n : Int) : Prop := -9223372036854775808 ≤ n ∧ n ≤ 9223372036854775807
/-- Its numbers are a machine's. -/
def Bx.ok (b : Bx) : Prop := I64 b.lx ∧ I64 b.ly ∧ I64 b.hx ∧ I64 b.hy
def noneB : Bx := ⟨true, 0, 0, 0, 0⟩
def zeroB : Bx := ⟨false, 0, 0, 0, 0⟩
theorem noneB_ok : noneB.ok := by unfold Bx.ok noneB I64; simp
/-- Alike in all. -/
def same (a b : Bx) : Bool := a.no == b.no && (a.lx == b.lx && (a.ly == b.ly && (a.hx == b.hx && a.hy == b.hy)))
theorem same_iff (a b : Bx) : same a b = true ↔ a = b := by
  unfold same
  simp only [Bool.and_eq_true, beq_iff_eq]
  constructor
  · rintro ⟨h0, h1, h2, h3, h4⟩; exact Bx.ext' h0 h1 h2 h3 h4
  · rintro rfl; simp
theorem same_refl (a : Bx) : same a a = true := (same_iff a a).2 rfl
theorem same_symm (a b : Bx) : same a b = same b a := by
  rw [Bool.eq_iff_iff, same_iff, same_iff]; exact eq_comm
def has (b : Bx) : Bool := !b.no && (decide (b.lx ≤ b.hx) && decide (b.ly ≤ b.hy))
def good (b : Bx) : Bool := if b.no = true then same b noneB else decide (b.lx ≤ b.hx) && decide (b.ly ≤ b.hy)
theorem has_good (b : Bx) : (!b.no && good b) = has b := by
  unfold has good; cases b.no <;> simp
theorem has_good' (b : Bx) : (good b && !b.no) = has b := by rw [Bool.and_comm, has_good]
theorem has_iff (b : Bx) : has b = true ↔ b.no = false ∧ b.lx ≤ b.hx ∧ b.ly ≤ b.hy := by
  unfold has; simp
def mn (a b : Int) : Int := if a < b then a else b
def mx (a b : Int) : Int := if a < b then b else a
theorem mn_iff (a b : Int) : mn a b ≤ a ∧ mn a b ≤ b ∧ (mn a b = a ∨ mn a b = b) := by unfold mn; split <;> omega
theorem mx_iff (a b : Int) : a ≤ mx a b ∧ b ≤ mx a b ∧ (mx a b = a ∨ mx a b = b) := by unfold mx; split <;> omega
theorem mn_comm (a b : Int) : mn a b = mn b a := by have := mn_iff a b; have := mn_iff b a; omega
theorem mx_comm (a b : Int) : mx a b = mx b a := by have := mx_iff a b; have := mx_iff b a; omega
def both (a b : Bx) : Bx := ⟨false, mn a.lx b.lx, mn a.ly b.ly, mx a.hx b.hx, mx a.hy b.hy⟩
def union (a b : Bx) : Bx := if has a = true then if has b = true then both a b else a else if has b = true then b else noneB
theorem union_ok {a b : Bx} (ha : a.ok) (hb : b.ok) : (union a b).ok := by
  unfold union
  split
  · split
    · unfold both Bx.ok I64 at *
      have := mn_iff a.lx b.lx; have := mn_iff a.ly b.ly; have := mx_iff a.hx b.hx; have := mx_iff a.hy b.hy
      simp only; omega
    · exact ha
  · split
    · exact hb
    · exact noneB_ok
theorem has_both {a b : Bx} (ha : has a = true) (hb : has b = true) : has (both a b) = true := by
  rw [has_iff] at *
  unfold both
  have := mn_iff a.lx b.lx; have := mn_iff a.ly b.ly; have := mx_iff a.hx b.hx; have := mx_iff a.hy b.hy
  refine ⟨rfl, ?_, ?_⟩ <;> simp only <;> omega
theorem has_none : has noneB = false := rfl
theorem has_union (a b : Bx) : has (union a b) = (has a || has b) := by
  unfold union
  cases ha : has a <;> cases hb : has b <;> simp [ha, hb, has_none, has_both]
theorem union_comm (a b : Bx) : union a b = union b a := by
  unfold union
  cases ha : has a <;> cases hb : has b <;> simp
  unfold both
  exact Bx.ext' rfl (mn_comm _ _) (mn_comm _ _) (mx_comm _ _) (mx_comm _ _)
def meets (a b : Bx) : Bool := has a && (has b && (decide (a.lx ≤ b.hx) && (decide (b.lx ≤ a.hx) && (decide (a.ly ≤ b.hy) && decide (b.ly ≤ a.hy)))))
theorem meets_iff (a b : Bx) : meets a b = true ↔ has a = true ∧ has b = true ∧ a.lx ≤ b.hx ∧ b.lx ≤ a.hx ∧ a.ly ≤ b.hy ∧ b.ly ≤ a.hy := by unfold meets; simp
theorem meets_comm (a b : Bx) : meets a b = meets b a := by
  rw [Bool.eq_iff_iff, meets_iff, meets_iff]; constructor <;> (rintro ⟨h1, h2, h3, h4, h5, h6⟩; exact ⟨h2, h1, h4, h3, h6, h5⟩)
/-- The program's way: no side of what both have is empty. -/
theorem meets_sides (a b : Bx) (ha : has a = true) (hb : has b = true) : meets a b = (!decide (mn a.hx b.hx < mx a.lx b.lx) && !decide (mn a.hy b.hy < mx a.ly b.ly)) := by
  have h1 := (has_iff a).1 ha
  have h2 := (has_iff b).1 hb
  rw [Bool.eq_iff_iff, meets_iff]
  have := mn_iff a.hx b.hx; have := mn_iff a.hy b.hy; have := mx_iff a.lx b.lx; have := mx_iff a.ly b.ly
  simp only [Bool.and_eq_true, Bool.not_eq_true', decide_eq_false_iff_not, ha, hb, true_and]
  omega
def holds (a b : Bx) : Bool := !has b || (has a && (decide (a.lx ≤ b.lx) && (decide (b.hx ≤ a.hx) && (decide (a.ly ≤ b.ly) && decide (b.hy ≤ a.hy)))))
theorem holds_iff (a b : Bx) : holds a b = true ↔ has b = false ∨ (has a = true ∧ a.lx ≤ b.lx ∧ b.hx ≤ a.hx ∧ a.ly ≤ b.ly ∧ b.hy ≤ a.hy) := by unfold holds; simp
/-- The program's way: around both is what one is. -/
theorem holds_union (a b : Bx) : holds a b = (!has b || (has a && same (union a b) a)) := by
  rw [Bool.eq_iff_iff, holds_iff]
  simp only [Bool.or_eq_true, Bool.not_eq_true', Bool.and_eq_true, same_iff]
  cases hb : has b with
  | false => simp
  | true =>
    simp only [Bool.true_eq_false, false_or]
    constructor
    · rintro ⟨ha, h1, h2, h3, h4⟩
      refine ⟨ha, ?_⟩
      unfold union
      rw [if_pos ha, if_pos hb]
      have hh := (has_iff a).1 ha
      have := mn_iff a.lx b.lx; have := mn_iff a.ly b.ly; have := mx_iff a.hx b.hx; have := mx_iff a.hy b.hy
      unfold both
      refine Bx.ext' hh.1.symm ?_ ?_ ?_ ?_ <;> simp only <;> omega
    · rintro ⟨ha, h⟩
      refine ⟨ha, ?_⟩
      unfold union at h
      rw [if_pos ha, if_pos hb] at h
      have := mn_iff a.lx b.lx; have := mn_iff a.ly b.ly; have := mx_iff a.hx b.hx; have := mx_iff a.hy b.hy
      unfold both at h
      have e1 := congrArg Bx.lx h; have e2 := congrArg Bx.ly h; have e3 := congrArg Bx.hx h; have e4 := congrArg Bx.hy h
      simp only at e1 e2 e3 e4
      omega
theorem holds_l (a b : Bx) : holds (union a b) a = true := by
  rw [holds_iff]
  cases ha : has a with
  | false => exact .inl rfl
  | true =>
    refine .inr ⟨by rw [has_union, ha]; rfl, ?_⟩
    unfold union
    rw [if_pos ha]
    split
    · have := mn_iff a.lx b.lx; have := mn_iff a.ly b.ly; have := mx_iff a.hx b.hx; have := mx_iff a.hy b.hy
      unfold both; simp only; omega
    · omega
theorem holds_r (a b : Bx) : holds (union a b) b = true := by rw [union_comm]; exact holds_l b a
theorem meets_union {a c : Bx} (b : Bx) (h : meets a c = true) : meets (union a b) c = true := by
  rw [meets_iff] at *
  obtain ⟨ha, hc, h1, h2, h3, h4⟩ := h
  refine ⟨by rw [has_union, ha]; rfl, hc, ?_⟩
  unfold union
  rw [if_pos ha]
  split
  · have := mn_iff a.lx b.lx; have := mn_iff a.ly b.ly; have := mx_iff a.hx b.hx; have := mx_iff a.hy b.hy
    unfold both; simp only; omega
  · omega
def equal (a b : Bx) : Bool := if has a != has b then false else !has a || same a b
theorem equal_ref (a b : Bx) : ((!has a && !has b) || (has a && (has b && same a b))) = equal a b := by
  unfold equal; cases has a <;> cases has b <;> simp
theorem equal_refl (a : Bx) : equal a a = true := by unfold equal; simp [same_refl]
theorem holds_equal {a b : Bx} (h : holds a b = true) : equal (union a b) a = true := by
  rw [holds_union] at h
  cases hb : has b with
  | true =>
    rw [hb] at h
    simp only [Bool.not_true, Bool.false_or, Bool.and_eq_true, same_iff] at h
    rw [h.2]; exact equal_refl a
  | false =>
    cases ha : has a with
    | true => unfold union; rw [if_pos ha, if_neg (by simp [hb])]; exact equal_refl a
    | false => unfold equal; simp [has_union, ha, hb]

/-! ### areas -/
def side (l h : Int) : Int := h - l
def area (b : Bx) : Int := if has b = true then (b.hx - b.lx) * (b.hy - b.ly) else 0
theorem side_64 {b : Bx} (h : b.ok) (hb : has b = true) : W64 (b.hx - b.lx) ∧ W64 (b.hy - b.ly) := by
  have := (has_iff b).1 hb
  unfold Bx.ok I64 at h
  unfold W64; omega
theorem area_u {b : Bx} (h : b.ok) : 0 ≤ area b ∧ area b < 340282366920938463463374607431768211456 := by
  unfold area
  split
  · rename_i hb
    obtain ⟨h1, h2⟩ := side_64 h hb
    exact w_mul h1 h2
  · omega
theorem area_192 {b : Bx} (h : b.ok) : U192 (area b) := by have := area_u h; unfold U192; omega
theorem area_mono (a b : Bx) : area a ≤ area (union a b) := by
  cases ha : has a with
  | false =>
    rw [show area a = 0 by unfold area; rw [if_neg (by simp [ha])]]
    unfold area
    split
    · rename_i h
      have := (has_iff _).1 h
      exact Int.mul_nonneg (by omega) (by omega)
    · exact Int.le_refl _
  | true =>
    have h1 := (holds_iff _ _).1 (holds_l a b)
    rw [ha] at h1
    simp only [Bool.true_eq_false, false_or] at h1
    obtain ⟨h2, h3, h4, h5, h6⟩ := h1
    have h7 := (has_iff a).1 ha
    unfold area
    rw [if_pos ha, if_pos h2]
    exact Int.mul_le_mul (by omega) (by omega) (by omega) (by omega)
def growth (a b : Bx) : Int := area (union a b) - area a
theorem growth_u {a b : Bx} (ha : a.ok) (hb : b.ok) : U192 (growth a b) := by
  have h1 := area_mono a b
  have h2 := area_192 (union_ok ha hb)
  have h3 := area_192 ha
  unfold growth U192 at *; omega
theorem growth_sub {a b : Bx} : subV (area (union a b)) (area a) = growth a b := by
  unfold subV subOk growth
  rw [if_pos (by simpa using area_mono a b)]
/-- How much neither has, and whether that is below 0. -/
def wasteN (a b : Bx) : Bool := decide (area (union a b) < area a + area b)
def waste (a b : Bx) : Int := if wasteN a b = true then area a + area b - area (union a b) else area (union a b) - (area a + area b)
theorem waste_u {a b : Bx} (ha : a.ok) (hb : b.ok) : U192 (waste a b) := by
  have h2 := area_u (union_ok ha hb)
  have h3 := area_u ha
  have h4 := area_u hb
  unfold waste wasteN U192 at *
  split
  · rename_i h; simp only [decide_eq_true_eq] at h; omega
  · rename_i h; simp only [decide_eq_true_eq] at h; omega
theorem both_u {a b : Bx} (ha : a.ok) (hb : b.ok) : U192 (area a + area b) ∧ addV (area a) (area b) = area a + area b := by
  have h3 := area_u ha
  have h4 := area_u hb
  refine ⟨by unfold U192; omega, ?_⟩
  unfold addV addOk
  rw [if_pos (by simp only [decide_eq_true_eq]; omega)]
theorem growth_zero (a b : Bx) : (growth a b = 0) ↔ area (union a b) = area a := by unfold growth; omega
end Go.Proofs.YtakkifedcbhgfaaDoor.MBox
