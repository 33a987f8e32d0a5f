/- What is put is got: plain facts about Vars and numbers of so many bytes. -/
import Derived.Test.YtlfcgicobhalmaaMOct
namespace Go.Proofs.Ytlfcgicobhalmaa.MOct
set_option linter.unusedVariables false
set_option linter.unusedSimpArgs false
theorem V_W (i : Nat) : ∀ n : Int, 0 ≤ n → n < 128 ^ i → V (W n i) = n := by
  induction i with
  | zero => intro n h0 h1; simp [W, V]; omega
  | succ i ih =>
    intro n h0 h1
    rw [W, V_snoc, ih (n / 128) (by omega) (by rw [Int.pow_succ] at h1; omega)]
    omega
theorem tk_skip (t : List Int) : ∀ m p : List Int, (∀ x ∈ m, 128 ≤ x ∧ x < 256) → p.length + m.length ≤ 8 → tk (V p) p.length (m ++ t) = tk (V (p ++ m)) ((p.length : Int) + m.length) t := by
  intro m
  induction m with
  | nil => intro p _ _; simp
  | cons c m ih =>
    intro p hm hl
    have hc := hm c (by simp)
    simp only [List.length_cons] at hl
    simp only [List.cons_append, tk]
    rw [if_neg (by omega), if_neg (by omega), ← V_snoc]
    have := ih (p ++ [c]) (fun x hx => hm x (by simp [hx])) (by simp; omega)
    simp only [List.length_append, List.length_cons, List.length_nil, List.append_assoc, List.cons_append, List.nil_append] at this
    rw [show ((p.length + (0 + 1) : Nat) : Int) = (p.length : Int) + 1 by omega] at this
    rw [this]
    simp only [List.length_cons]
    congr 1
    omega
theorem take_vr (n : Int) (rest : List Int) (h0 : 0 ≤ n) (h1 : n < 18446744073709551616) : take (vr n ++ rest) = (n, sz n) := by
  have hs := sz_range n
  unfold take vr
  by_cases h9 : sz n = 9
  · rw [if_pos h9, List.append_assoc]
    have := tk_skip ([n % 256] ++ rest) (W (n / 256) 8) [] (W_range 8 (n / 256)) (by rw [W_length]; simp)
    simp only [List.nil_append, List.length_nil, W_length] at this
    have e : tk 0 0 (W (n / 256) 8 ++ ([n % 256] ++ rest)) = tk (V []) ((0 : Nat) : Int) (W (n / 256) 8 ++ ([n % 256] ++ rest)) := rfl
    rw [e, this, V_W 8 (n / 256) (by omega) (by omega)]
    simp only [List.cons_append, List.nil_append, tk]
    rw [if_pos (by omega), show n / 256 * 256 + n % 256 = n by omega, if_pos h9, h9]
  · rw [if_neg h9, List.append_assoc]
    have hp := sz_pow n h9
    have := tk_skip ([n % 128] ++ rest) (W (n / 128) ((sz n).toNat - 1)) [] (W_range _ (n / 128)) (by rw [W_length]; simp; omega)
    simp only [List.nil_append, List.length_nil, W_length] at this
    have e : tk 0 0 (W (n / 128) ((sz n).toNat - 1) ++ ([n % 128] ++ rest)) = tk (V []) ((0 : Nat) : Int) (W (n / 128) ((sz n).toNat - 1) ++ ([n % 128] ++ rest)) := rfl
    rw [e, this, V_W _ (n / 128) (by omega) hp]
    simp only [List.cons_append, List.nil_append, tk]
    rw [if_neg (by omega), if_pos (by omega), show n / 128 * 128 + n % 128 % 128 = n by omega, if_pos (by omega)]
    congr 1
    omega
theorem num_from (l : List Int) : ∀ a : Int, l.foldl (fun a b => a * 256 + b) a = a * 256 ^ l.length + num l := by
  induction l with
  | nil => intro a; simp [num]
  | cons c l ih =>
    intro a
    simp only [num, List.foldl_cons, List.length_cons]
    rw [ih, ih (0 * 256 + c), Int.pow_succ]
    simp only [Int.zero_mul, Int.zero_add, Int.add_mul, Int.mul_assoc, Int.add_assoc]
    congr 1
    rw [Int.mul_comm 256]
theorem num_be (n : Int) (k : Nat) (h0 : 0 ≤ n) : num (be n k) = n % 256 ^ k := by
  induction k with
  | zero => simp [be, num]
  | succ k ih =>
    have e : num (be n (k + 1)) = n / 256 ^ k % 256 * 256 ^ k + num (be n k) := by
      have := num_from (be n k) (n / 256 ^ k % 256)
      rw [be_length] at this
      simpa [be, num] using this
    rw [e, ih, Int.pow_succ]
    have hp : (0 : Int) < 256 ^ k := Int.pow_pos (by omega)
    have h2 : n % (256 ^ k * 256) = n % 256 ^ k + 256 ^ k * (n / 256 ^ k % 256) := by
      rw [Int.emod_def, Int.emod_def n (256 ^ k), Int.emod_def (n / 256 ^ k) 256, Int.ediv_ediv_of_nonneg (by omega), Int.mul_sub, Int.mul_assoc]
      omega
    rw [h2, Int.mul_comm]
    omega
theorem getV_put (n : Int) (little : Bool) (rest : List Int) (h0 : 0 ≤ n) (h1 : n < 18446744073709551616) : getV (putL n 8 little ++ rest) 8 little = (n, true) := by
  have hm : many 8 = 8 := rfl
  have hl : (putL n 8 little).length = 8 := by rw [putL_length]; rfl
  unfold getV
  rw [if_neg (by rw [List.length_append, hl]; omega)]
  have e : head (putL n 8 little ++ rest) ((8 : Int).toNat) little = be n 8 := by
    show head (putL n 8 little ++ rest) 8 little = be n 8
    unfold head
    have e2 : (putL n 8 little ++ rest).take 8 = putL n 8 little := by rw [List.take_append_of_le_length (by omega), List.take_of_length_le (by omega)]
    rw [e2]
    unfold putL
    cases little
    · simp [hm]
    · simp only [if_true, hm]; exact le_reverse n 8
  rw [e, num_be n 8 h0, Int.emod_eq_of_lt h0 (by omega)]
end Go.Proofs.Ytlfcgicobhalmaa.MOct
