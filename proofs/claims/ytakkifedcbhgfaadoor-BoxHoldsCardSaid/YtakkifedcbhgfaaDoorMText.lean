/- Plain facts on decimal digits (layer 1): a number's digits, the number of digits, texts that are a number; no program and no memory. -/
import Derived.Test.YtakkifedcbhgfaaDoorMWide
namespace Go.Proofs.YtakkifedcbhgfaaDoor.MText
open Go Go.Proofs.YtakkifedcbhgfaaDoor.MWide
set_option linter.unusedVariables false
set_option linter.unusedSimpArgs false

theorem snoc_ind {α : Type} {motive : List α → Prop} (nil : motive []) (snoc : ∀ l c, motive l → motive (l ++ [c])) (l : List α) : motive l := by
  rw [← List.reverse_reverse l]
  induction l.reverse with
  | nil => exact nil
  | cons x l ih => rw [List.reverse_cons]; exact snoc _ _ ih
/-- So many digits, the lowest last. -/
def padD : Int → Nat → List Int
  | _, 0 => []
  | n, k + 1 => padD (n / 10) k ++ [48 + n % 10]
def strip (l : List Int) : List Int := l.dropWhile (· == 48)
/-- A number's digits. -/
def dec (n : Int) : List Int := if n ≤ 0 then [48] else strip (padD n 58)
theorem padD_length (n : Int) (k : Nat) : (padD n k).length = k := by
  induction k generalizing n with
  | zero => rfl
  | succ k ih => simp [padD, ih]
theorem padD_add (n : Int) (k j : Nat) : padD n (k + j) = padD (n / 10 ^ j) k ++ padD n j := by
  induction j generalizing n with
  | zero => simp [padD]
  | succ j ih =>
    rw [show k + (j + 1) = (k + j) + 1 by omega, padD, ih, padD, List.append_assoc]
    congr 2
    rw [Int.ediv_ediv_of_nonneg (by decide), Int.pow_succ, Int.mul_comm]
theorem div10_mod (n : Int) (k : Nat) : n % 10 ^ (k + 1) / 10 = n / 10 % 10 ^ k ∧ n % 10 ^ (k + 1) % 10 = n % 10 := by
  have hp : (0 : Int) < 10 ^ k := Int.pow_pos (by decide)
  have e : (10 : Int) ^ (k + 1) = 10 * 10 ^ k := by rw [Int.pow_succ, Int.mul_comm]
  rw [e]
  have h1 := parts n 10
  have h2 := parts (n / 10) (10 ^ k)
  have r0 := Int.emod_nonneg (n / 10) (Int.ne_of_gt hp)
  have r1 := Int.emod_lt_of_pos (n / 10) hp
  generalize n / 10 / 10 ^ k = d at *
  generalize n / 10 % 10 ^ k = r at *
  have h3 : n % (10 * 10 ^ k) = 10 * r + n % 10 := by
    refine mod_of (q := d) ?_ (by omega) (by omega)
    rw [Int.mul_assoc]
    omega
  rw [h3]
  omega
theorem padD_mod (n : Int) (k : Nat) : padD (n % 10 ^ k) k = padD n k := by
  induction k generalizing n with
  | zero => rfl
  | succ k ih =>
    obtain ⟨h1, h2⟩ := div10_mod n k
    rw [padD, padD, h1, h2, ih]
theorem strip_zeros (j : Nat) (l : List Int) : strip (padD 0 j ++ l) = strip l := by
  induction j generalizing l with
  | zero => rfl
  | succ j ih =>
    rw [padD, List.append_assoc, show (0 : Int) / 10 = 0 from rfl, ih]
    rfl
theorem strip_pad0 (j : Nat) : strip (padD 0 j) = [] := by
  have := strip_zeros j []
  rwa [List.append_nil] at this
theorem p10 (k : Nat) : (0 : Int) < 10 ^ k := Int.pow_pos (by decide)
theorem p10s (k : Nat) : (10 : Int) ^ (k + 1) = 10 * 10 ^ k := by rw [Int.pow_succ, Int.mul_comm]
theorem strip_more {n : Int} {k m : Nat} (h0 : 0 ≤ n) (h : n < 10 ^ k) (hk : k ≤ m) : strip (padD n m) = strip (padD n k) := by
  obtain ⟨j, rfl⟩ : ∃ j, m = j + k := ⟨m - k, by omega⟩
  rw [padD_add, Int.ediv_eq_zero_of_lt h0 h, strip_zeros]
theorem strip_two {n : Int} {k m : Nat} (h0 : 0 ≤ n) (h : n < 10 ^ k) (h' : n < 10 ^ m) : strip (padD n m) = strip (padD n k) := by
  rcases Nat.le_total k m with hk | hk
  · exact strip_more h0 h hk
  · exact (strip_more h0 h' hk).symm
theorem strip_dec {n : Int} {k : Nat} (h0 : 0 < n) (h : n < 10 ^ k) (hn : n < 10 ^ 58) : strip (padD n k) = dec n := by
  unfold dec
  rw [if_neg (by omega)]
  exact strip_two (by omega) hn h
theorem strip_ne {l : List Int} (h : strip l ≠ []) (c : Int) : strip (l ++ [c]) = strip l ++ [c] := by
  unfold strip at *
  induction l with
  | nil => exact absurd rfl h
  | cons x l ih =>
    rw [List.cons_append, List.dropWhile_cons, List.dropWhile_cons]
    rw [List.dropWhile_cons] at h
    split
    · rw [if_pos (by assumption)] at h
      exact ih h
    · rfl
theorem strip_nil {l : List Int} (h : strip l = []) (c : Int) (hc : c ≠ 48) : strip (l ++ [c]) = [c] := by
  unfold strip at *
  induction l with
  | nil => rw [List.nil_append, List.dropWhile_cons, if_neg (by simpa using hc)]
  | cons x l ih =>
    rw [List.cons_append, List.dropWhile_cons]
    rw [List.dropWhile_cons] at h
    split
    · rw [if_pos (by assumption)] at h
      exact ih h
    · rw [if_neg (by assumption)] at h
      cases h
theorem strip_pad_ne {n : Int} {k : Nat} (h0 : 0 < n) (h : n < 10 ^ k) : strip (padD n k) ≠ [] := by
  induction k generalizing n with
  | zero => rw [Int.pow_zero] at h; omega
  | succ k ih =>
    rw [padD]
    rw [p10s] at h
    by_cases hz : n / 10 = 0
    · rw [hz, strip_nil (strip_pad0 k) _ (by omega)]; simp
    · rw [strip_ne (ih (by omega) (by omega))]; simp
/-- The digits, one by one. -/
theorem dec_rec {n : Int} (h0 : 0 ≤ n) (h : n < 10 ^ 58) : dec n = if n / 10 = 0 then [48 + n % 10] else dec (n / 10) ++ [48 + n % 10] := by
  by_cases hz : n / 10 = 0
  · rw [if_pos hz]
    by_cases h00 : n = 0
    · subst h00; rfl
    · unfold dec
      rw [if_neg (by omega), show (58 : Nat) = 57 + 1 from rfl, padD, hz, strip_nil (strip_pad0 _) _ (by omega)]
  · rw [if_neg hz]
    have hp : (10 : Int) ^ 58 = 10 * 10 ^ 57 := p10s 57
    have h57 : n / 10 < 10 ^ 57 := by rw [hp] at h; generalize (10 : Int) ^ 57 = q at *; omega
    have h58 : n / 10 < 10 ^ 58 := Int.lt_of_le_of_lt (Int.ediv_le_self _ h0) h
    rw [← strip_dec (n := n / 10) (k := 57) (by omega) h57 h58]
    unfold dec
    rw [if_neg (by omega), show (58 : Nat) = 57 + 1 from rfl, padD, strip_ne (strip_pad_ne (by omega) h57)]

/-! ### the number of digits -/
def numOf (l : List Int) : Int := l.foldl (fun v c => 10 * v + (c - 48)) 0
def isDig (c : Int) : Bool := decide (48 ≤ c ∧ c ≤ 57)
def digs (l : List Int) : Prop := ∀ c ∈ l, 48 ≤ c ∧ c ≤ 57
theorem numOf_snoc (l : List Int) (c : Int) : numOf (l ++ [c]) = 10 * numOf l + (c - 48) := by simp [numOf]
theorem digs_snoc {l : List Int} {c : Int} (h : digs (l ++ [c])) : digs l ∧ 48 ≤ c ∧ c ≤ 57 := ⟨fun x hx => h x (by simp [hx]), h c (by simp)⟩
theorem numOf_nonneg {l : List Int} (h : digs l) : 0 ≤ numOf l := by
  induction l using snoc_ind with
  | nil => exact Int.le_refl _
  | snoc l c ih => rw [numOf_snoc]; have := digs_snoc h; have := ih this.1; omega
theorem numOf_lt {l : List Int} (h : digs l) : numOf l < 10 ^ l.length := by
  induction l using snoc_ind with
  | nil => decide
  | snoc l c ih =>
    rw [numOf_snoc, List.length_append, List.length_singleton, p10s]
    have := digs_snoc h; have := ih this.1; omega
theorem numOf_app {l m : List Int} (h : digs (l ++ m)) : numOf l ≤ numOf (l ++ m) := by
  induction m using snoc_ind with
  | nil => simp
  | snoc m c ih =>
    rw [← List.append_assoc] at h ⊢
    rw [numOf_snoc]
    have h1 := digs_snoc h
    have := ih h1.1
    have h2 : digs l := fun x hx => h1.1 x (by simp [hx])
    have := numOf_nonneg h2
    omega
theorem numOf_cons {l : List Int} {c : Int} (h : digs (c :: l)) (hc : c ≠ 48) : 10 ^ l.length ≤ numOf (c :: l) := by
  induction l using snoc_ind with
  | nil => have := h c (by simp); simp [numOf]; omega
  | snoc l d ih =>
    rw [show c :: (l ++ [d]) = (c :: l) ++ [d] from rfl] at h ⊢
    rw [numOf_snoc, List.length_append, List.length_singleton, p10s]
    have := digs_snoc h
    have := ih this.1
    omega
theorem dec_digs {n : Int} (h0 : 0 ≤ n) (h : n < 10 ^ 58) : digs (dec n) := by
  generalize hk : n.toNat = k
  induction k using Nat.strongRecOn generalizing n with
  | _ k ih =>
    rw [dec_rec h0 h]
    split
    · intro c hc; simp at hc; omega
    · have := ih (n / 10).toNat (by omega) (n := n / 10) (by omega) (Int.lt_of_le_of_lt (Int.ediv_le_self _ h0) h) rfl
      intro c hc
      rcases List.mem_append.1 hc with hc | hc
      · exact this c hc
      · simp at hc; omega
theorem numOf_dec {n : Int} (h0 : 0 ≤ n) (h : n < 10 ^ 58) : numOf (dec n) = n := by
  generalize hk : n.toNat = k
  induction k using Nat.strongRecOn generalizing n with
  | _ k ih =>
    rw [dec_rec h0 h]
    split
    · simp [numOf]; omega
    · have := ih (n / 10).toNat (by omega) (n := n / 10) (by omega) (Int.lt_of_le_of_lt (Int.ediv_le_self _ h0) h) rfl
      rw [numOf_snoc, this]; omega
theorem dec_ne {n : Int} (h0 : 0 ≤ n) (h : n < 10 ^ 58) : dec n ≠ [] := by
  rw [dec_rec h0 h]; split <;> simp
theorem dec_length {n : Int} (h0 : 0 ≤ n) (h : n < 10 ^ 58) : (dec n).length ≤ 58 := by
  unfold dec
  split
  · simp
  · unfold strip
    have := (List.dropWhile_sublist (fun x : Int => x == 48) (l := padD n 58)).length_le
    rw [padD_length] at this
    exact this
/-- Digits that begin with no 0, or are one. -/
def canon (l : List Int) : Prop := l ≠ [] ∧ digs l ∧ (l.length = 1 ∨ l.head? ≠ some 48)
theorem dec_canon {n : Int} (h0 : 0 ≤ n) (h : n < 10 ^ 58) : canon (dec n) := by
  refine ⟨dec_ne h0 h, dec_digs h0 h, ?_⟩
  unfold dec
  split
  · exact .inl rfl
  · right
    unfold strip
    generalize padD n 58 = l
    induction l with
    | nil => simp
    | cons x l ih =>
      rw [List.dropWhile_cons]
      split
      · exact ih
      · rename_i hx; simpa using hx
theorem dec_numOf {l : List Int} (h : canon l) (hl : numOf l < 10 ^ 58) : dec (numOf l) = l := by
  induction l using snoc_ind with
  | nil => exact absurd rfl h.1
  | snoc m c ih =>
    obtain ⟨_, hd, hh⟩ := h
    have hd2 := digs_snoc hd
    have hn := numOf_nonneg hd
    have hm := numOf_nonneg hd2.1
    rw [dec_rec hn hl, numOf_snoc]
    have e1 : (10 * numOf m + (c - 48)) / 10 = numOf m := by omega
    have e2 : 48 + (10 * numOf m + (c - 48)) % 10 = c := by omega
    rw [e1, e2]
    by_cases hz : m = []
    · subst hz; simp [numOf]
    · obtain ⟨x, m', rfl⟩ : ∃ x m', m = x :: m' := by cases m with | nil => exact absurd rfl hz | cons x m' => exact ⟨x, m', rfl⟩
      have hx : x ≠ 48 := by
        rcases hh with hh | hh
        · simp at hh
        · simpa using hh
      have := numOf_cons hd2.1 hx
      have := p10 m'.length
      rw [if_neg (by omega), ih ⟨by simp, hd2.1, .inr (by simpa using hx)⟩ (by rw [numOf_snoc] at hl; omega)]
/-- Is a text a number's? -/
def parseOk (l : List Int) : Bool := decide (l ≠ [] ∧ l.length ≤ 58 ∧ (∀ c ∈ l, 48 ≤ c ∧ c ≤ 57) ∧ numOf l < 6277101735386680763835789423207666416102355444464034512896 ∧ dec (numOf l) = l)
def parseV (l : List Int) : Int := if parseOk l = true then numOf l else 0
theorem top58 : (6277101735386680763835789423207666416102355444464034512896 : Int) < 10 ^ 58 := by decide
theorem parse_iff (l : List Int) : parseOk l = true ↔ canon l ∧ l.length ≤ 60 ∧ numOf l < 6277101735386680763835789423207666416102355444464034512896 := by
  unfold parseOk
  rw [decide_eq_true_eq]
  constructor
  · rintro ⟨h1, h2, h3, h4, h5⟩
    refine ⟨?_, by omega, h4⟩
    rw [← h5]
    exact dec_canon (numOf_nonneg h3) (Int.lt_trans h4 top58)
  · rintro ⟨hc, h2, h3⟩
    have h58 := Int.lt_trans h3 top58
    have hd := dec_numOf hc h58
    refine ⟨hc.1, ?_, hc.2.1, h3, hd⟩
    rw [← hd]
    exact dec_length (numOf_nonneg hc.2.1) h58
theorem parse_dec {n : Int} (h : U192 n) : parseOk (dec n) = true ∧ parseV (dec n) = n := by
  have h58 := Int.lt_trans h.2 top58
  have e := numOf_dec h.1 h58
  have : parseOk (dec n) = true := (parse_iff _).2 ⟨dec_canon h.1 h58, by have := dec_length h.1 h58; omega, by rw [e]; exact h.2⟩
  exact ⟨this, by unfold parseV; rw [if_pos this, e]⟩
theorem parseV_u (l : List Int) : U192 (parseV l) := by
  unfold parseV
  split
  · rename_i h
    obtain ⟨h1, h2, h3⟩ := (parse_iff l).1 h
    exact ⟨numOf_nonneg h1.2.1, h3⟩
  · exact ⟨by omega, by omega⟩
end Go.Proofs.YtakkifedcbhgfaaDoor.MText
