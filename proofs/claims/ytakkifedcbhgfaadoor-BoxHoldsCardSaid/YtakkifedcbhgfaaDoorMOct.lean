/- Plain facts on numbers as bytes (layer 2): how many bytes a number takes as a Var, its digits, the number that bytes begin with; no program and no memory. -/
import Derived.Laws.BitsAllLaws
import Derived.Laws.BitsLemmas
import Derived.Laws.Bits64
import Derived.Laws.Bits64b
import Derived.RowKit
import Derived.Lib.Bytes
import Derived.Laws.BytesArg
import Derived.Test.YtakkifedcbhgfaaDoorWMore
namespace Go.Proofs.YtakkifedcbhgfaaDoor.MOct
open Go Go.RowKit Go.Proofs.YtakkifedcbhgfaaDoorW.PrintWords Go.Proofs.YtakkifedcbhgfaaDoorW.PrintMore
set_option linter.unusedVariables false
set_option linter.unusedSimpArgs false

/-! ### small words -/
theorem shr_u64 (x s : Int) (h1 : s ≤ 64) : shr .u64 x s = x / 2 ^ s.toNat := by
  unfold shr
  have : min s.toNat (IntKind.bits .u64) = s.toNat := by
    have : IntKind.bits .u64 = 64 := rfl
    omega
  rw [this]
theorem or128 (b : Int) (h0 : 0 ≤ b) (h : b < 256) : Go.bits .or .u8 b 128 = b % 128 + 128 := by
  have hall : ∀ n : Fin 256, Go.bits .or .u8 ((n.val : Nat) : Int) 128 = ((n.val : Nat) : Int) % 128 + 128 := by decide +kernel
  have := hall ⟨b.toNat, by omega⟩
  simpa [Int.toNat_of_nonneg h0] using this
theorem andNot128 (b : Int) (h0 : 0 ≤ b) (h : b < 256) : Go.bits .andNot .u8 b 128 = b % 128 := by
  have hall : ∀ n : Fin 256, Go.bits .andNot .u8 ((n.val : Nat) : Int) 128 = ((n.val : Nat) : Int) % 128 := by decide +kernel
  have := hall ⟨b.toNat, by omega⟩
  simpa [Int.toNat_of_nonneg h0] using this
theorem and127 (b : Int) (h0 : 0 ≤ b) (h : b < 256) : Go.bits .and .u8 b 127 = b % 128 := by
  have hall : ∀ n : Fin 256, Go.bits .and .u8 ((n.val : Nat) : Int) 127 = ((n.val : Nat) : Int) % 128 := by decide +kernel
  have := hall ⟨b.toNat, by omega⟩
  simpa [Int.toNat_of_nonneg h0] using this
theorem wraps_u64 (n : Int) (h₀ : 0 ≤ n) (h₁ : n < 2 ^ 64) : IntKind.u64.wrap n = n := by rw [IntKind.wrap_u64]; omega
theorem and127_u64 (b : Int) (h0 : 0 ≤ b) (h : b < 18446744073709551616) : Go.bits .and .u64 b 127 = b % 128 :=
  bits_mask .u64 64 (by decide) wraps_u64 7 (by decide) b h0 h
theorem or_u64 (a b : Int) (i : Nat) (hi : i ≤ 64) (ha : 0 ≤ a) (ha2 : a * 2 ^ i < 18446744073709551616) (hb : 0 ≤ b) (hb2 : b < 2 ^ i) :
    Go.bits .or .u64 (a * 2 ^ i) b = a * 2 ^ i + b := by
  obtain ⟨m, rfl⟩ := Int.eq_ofNat_of_zero_le ha
  obtain ⟨n, rfl⟩ := Int.eq_ofNat_of_zero_le hb
  have e : (m : Int) * 2 ^ i = ((m * 2 ^ i : Nat) : Int) := by simp
  have hb3 : n < 2 ^ i := by exact_mod_cast hb2
  have ha3 : m * 2 ^ i < 2 ^ 64 := by
    rw [e] at ha2
    have : m * 2 ^ i < 18446744073709551616 := by omega
    simpa using this
  have hn : n < 2 ^ 64 := Nat.lt_of_lt_of_le hb3 (Nat.pow_le_pow_right (by omega) hi)
  rw [e, (bits_nat .u64 64 (by decide) wraps_u64 (m * 2 ^ i) n ha3 hn).2]
  rw [show m * 2 ^ i = 2 ^ i * m from Nat.mul_comm _ _, ← Nat.two_pow_add_eq_or_of_lt hb3]
  simp

/-! ### how many bytes; the digits -/
/-- How many bytes a number has as a Var. -/
def sz (n : Int) : Int := if n < 128 then 1 else if n < 16384 then 2 else if n < 2097152 then 3 else if n < 268435456 then 4 else if n < 34359738368 then 5 else if n < 4398046511104 then 6 else if n < 562949953421312 then 7 else if n < 72057594037927936 then 8 else 9
/-- i bytes of seven bits each, all with 128 more, the lowest last. -/
def W : Int → Nat → List Int
  | _, 0 => []
  | n, i + 1 => W (n / 128) i ++ [n % 128 + 128]
/-- A number as a Var. -/
def vr (n : Int) : List Int := if sz n = 9 then W (n / 256) 8 ++ [n % 256] else W (n / 128) ((sz n).toNat - 1) ++ [n % 128]
theorem sz_range (n : Int) : 1 ≤ sz n ∧ sz n ≤ 9 := by unfold sz; omega
theorem sz_le (n m : Int) (h : n ≤ m) : sz n ≤ sz m := by unfold sz; omega
theorem sz_at (n : Int) (k : Nat) (h1 : 1 ≤ k) (h8 : k ≤ 8) (hl : 128 ^ (k - 1) ≤ n ∨ k = 1) (hu : n < 128 ^ k) : sz n = k := by
  unfold sz
  rcases (by omega : k = 1 ∨ k = 2 ∨ k = 3 ∨ k = 4 ∨ k = 5 ∨ k = 6 ∨ k = 7 ∨ k = 8) with rfl | rfl | rfl | rfl | rfl | rfl | rfl | rfl <;> simp at hl hu ⊢ <;> omega
theorem sz_top (n : Int) (hl : 128 ^ 8 ≤ n) : sz n = 9 := by unfold sz; omega
theorem shr7 (n : Int) (k : Nat) (h : k ≤ 8) : n / 2 ^ (7 * (k : Int)).toNat = n / 128 ^ k := by
  rw [show (7 * (k : Int)).toNat = 7 * k by omega, Int.pow_mul]
  rfl
theorem W_length (i : Nat) : ∀ n : Int, (W n i).length = i := by
  induction i with
  | zero => intro n; rfl
  | succ i ih => intro n; simp [W, ih]
theorem W_range (i : Nat) : ∀ n : Int, ∀ x ∈ W n i, 128 ≤ x ∧ x < 256 := by
  induction i with
  | zero => intro n x hx; simp [W] at hx
  | succ i ih =>
    intro n x hx
    simp only [W, List.mem_append, List.mem_singleton] at hx
    rcases hx with hx | rfl
    · exact ih _ x hx
    · omega
theorem vr_length (n : Int) : (vr n).length = (sz n).toNat := by
  have := sz_range n
  unfold vr
  split <;> simp [W_length] <;> omega
theorem vr_length_int (n : Int) : ((vr n).length : Int) = sz n := by
  have := sz_range n
  have := vr_length n
  omega
theorem vr_range (n : Int) : ∀ x ∈ vr n, 0 ≤ x ∧ x < 256 := by
  intro x hx
  unfold vr at hx
  split at hx <;> simp only [List.mem_append, List.mem_singleton] at hx <;> rcases hx with hx | rfl
  · have := W_range _ _ x hx; omega
  · omega
  · have := W_range _ _ x hx; omega
  · omega
/-- The highest one ahead. -/
theorem W_head (i : Nat) : ∀ n : Int, W n (i + 1) = (n / 128 ^ i % 128 + 128) :: W n i := by
  induction i with
  | zero => intro n; simp [W]
  | succ i ih =>
    intro n
    have e : n / 128 / 128 ^ i = n / 128 ^ (i + 1) := by
      rw [Int.ediv_ediv_of_nonneg (by decide), Int.pow_succ, Int.mul_comm]
    rw [show W n (i + 1 + 1) = W (n / 128) (i + 1) ++ [n % 128 + 128] from rfl, ih, e]
    rfl
/-- The number of digits that stand one behind the other. -/
def V (l : List Int) : Int := l.foldl (fun a b => a * 128 + b % 128) 0
theorem V_snoc (l : List Int) (b : Int) : V (l ++ [b]) = V l * 128 + b % 128 := by simp [V, List.foldl_append]
theorem W_V (l : List Int) (h : ∀ x ∈ l, 128 ≤ x ∧ x < 256) : W (V l) l.length = l := by
  induction hl : l.length generalizing l with
  | zero => rw [List.eq_nil_of_length_eq_zero hl]; rfl
  | succ n ih =>
    obtain ⟨m, b, rfl⟩ : ∃ m b, l = m ++ [b] := by
      rcases List.eq_nil_or_concat l with e | ⟨m, b, e⟩
      · subst e; simp at hl
      · exact ⟨m, b, by simpa using e⟩
    have hm : m.length = n := by simp at hl; exact hl
    have hb := h b (by simp)
    have := ih m (fun x hx => h x (by simp [hx])) hm
    rw [V_snoc, W, show (V m * 128 + b % 128) / 128 = V m by omega, this, show (V m * 128 + b % 128) % 128 + 128 = b by omega]
theorem V_range (l : List Int) : 0 ≤ V l ∧ V l < 128 ^ l.length := by
  induction hl : l.length generalizing l with
  | zero => rw [List.eq_nil_of_length_eq_zero hl]; simp [V]
  | succ n ih =>
    obtain ⟨m, b, rfl⟩ : ∃ m b, l = m ++ [b] := by
      rcases List.eq_nil_or_concat l with e | ⟨m, b, e⟩
      · subst e; simp at hl
      · exact ⟨m, b, by simpa using e⟩
    have := ih m (by simp at hl; exact hl)
    rw [V_snoc, Int.pow_succ]
    omega

/-! ### the number that bytes begin with -/
/-- The loop of Take: the number so far, the place, what is left. -/
def tk (acc : Int) (i : Int) : List Int → Int × Int
  | [] => (0, 0)
  | c :: cs =>
    if i = 8 then (if sz (acc * 256 + c) = 9 then (acc * 256 + c, 9) else (0, 0))
    else if c < 128 then (if sz (acc * 128 + c % 128) = i + 1 then (acc * 128 + c % 128, i + 1) else (0, 0))
    else tk (acc * 128 + c % 128) (i + 1) cs
/-- What Take tells. -/
def take (l : List Int) : Int × Int := tk 0 0 l
/-- What is told of the bytes ahead (m, all with 128 more) and of those that are left: nothing, or a number whose Var stands there. -/
theorem tk_tells (l : List Int) : ∀ m : List Int, (∀ x ∈ m, 128 ≤ x ∧ x < 256) → (∀ x ∈ l, 0 ≤ x ∧ x < 256) → m.length ≤ 8 →
    tk (V m) m.length l = (0, 0) ∨ ∃ n, ∃ k : Nat, tk (V m) m.length l = (n, (m.length : Int) + k) ∧ 1 ≤ k ∧ k ≤ l.length ∧ 0 ≤ n ∧ n < 18446744073709551616 ∧ vr n = m ++ l.take k ∧ sz n = (m.length : Int) + k := by
  induction l with
  | nil => intro m _ _ _; exact .inl rfl
  | cons c cs ih =>
    intro m hm hl hlen
    have hc := hl c (by simp)
    have hV := V_range m
    have hW := W_V m hm
    simp only [tk]
    by_cases h8 : (m.length : Int) = 8
    · rw [if_pos h8]
      have h8' : m.length = 8 := by omega
      rw [h8'] at hV hW
      by_cases hs : sz (V m * 256 + c) = 9
      · rw [if_pos hs]
        refine .inr ⟨V m * 256 + c, 1, by rw [h8]; simp, by omega, by simp, by omega, by omega, ?_, by omega⟩
        unfold vr
        rw [if_pos hs, show (V m * 256 + c) / 256 = V m by omega, hW, show (V m * 256 + c) % 256 = c by omega]
        simp
      · rw [if_neg hs]; exact .inl rfl
    · rw [if_neg h8]
      have h7 : m.length ≤ 7 := by omega
      have hV2 : V m < 128 ^ 7 := Int.lt_of_lt_of_le hV.2 (by exact_mod_cast Nat.pow_le_pow_right (by omega) h7)
      by_cases ht : c < 128
      · rw [if_pos ht]
        by_cases hs : sz (V m * 128 + c % 128) = (m.length : Int) + 1
        · rw [if_pos hs]
          refine .inr ⟨V m * 128 + c % 128, 1, by simp, by omega, by simp, by omega, by omega, ?_, by omega⟩
          unfold vr
          rw [if_neg (by omega), hs, show ((m.length : Int) + 1).toNat - 1 = m.length by omega, show (V m * 128 + c % 128) / 128 = V m by omega, hW, show (V m * 128 + c % 128) % 128 = c by omega]
          simp
        · rw [if_neg hs]; exact .inl rfl
      · rw [if_neg ht]
        have := ih (m ++ [c]) (fun x hx => by
          simp only [List.mem_append, List.mem_singleton] at hx
          rcases hx with hx | rfl
          · exact hm x hx
          · omega) (fun x hx => hl x (by simp [hx])) (by simp; omega)
        rw [V_snoc] at this
        simp only [List.length_append, List.length_cons, List.length_nil, Nat.zero_add, Int.natCast_add, Int.cast_ofNat_Int] at this
        rcases this with h | ⟨n, k, h1, h2, h3, h4, h5, h6, h7⟩
        · exact .inl h
        · refine .inr ⟨n, k + 1, by rw [h1]; simp; omega, by omega, by simp; omega, h4, h5, ?_, by omega⟩
          rw [h6]; simp
theorem take_tells (l : List Int) (h : ∀ x ∈ l, 0 ≤ x ∧ x < 256) : take l = (0, 0) ∨ ∃ n, ∃ k : Nat, take l = (n, (k : Int)) ∧ 1 ≤ k ∧ k ≤ l.length ∧ 0 ≤ n ∧ n < 18446744073709551616 ∧ vr n = l.take k ∧ sz n = k := by
  rcases tk_tells l [] (by simp) h (by simp) with h | ⟨n, k, h1, h2, h3, h4, h5, h6, h7⟩
  · exact .inl h
  · exact .inr ⟨n, k, by have e : take l = tk (V []) 0 l := rfl; rw [e]; simpa using h1, h2, h3, h4, h5, by simpa using h6, by simpa using h7⟩

/-! ### numbers of so many bytes -/
/-- The number that bytes are, the greatest first. -/
def num (l : List Int) : Int := l.foldl (fun a b => a * 256 + b) 0
theorem num_snoc (l : List Int) (b : Int) : num (l ++ [b]) = num l * 256 + b := by simp [num, List.foldl_append]
theorem num_range (l : List Int) (h : ∀ x ∈ l, 0 ≤ x ∧ x < 256) : 0 ≤ num l ∧ num l < 256 ^ l.length := by
  induction hl : l.length generalizing l with
  | zero => rw [List.eq_nil_of_length_eq_zero hl]; simp [num]
  | succ n ih =>
    obtain ⟨m, b, rfl⟩ : ∃ m b, l = m ++ [b] := by
      rcases List.eq_nil_or_concat l with e | ⟨m, b, e⟩
      · subst e; simp at hl
      · exact ⟨m, b, by simpa using e⟩
    have := ih m (fun x hx => h x (by simp [hx])) (by simp at hl; exact hl)
    have hb := h b (by simp)
    rw [num_snoc, Int.pow_succ]
    omega
theorem num_lt (l : List Int) (h : ∀ x ∈ l, 0 ≤ x ∧ x < 256) (hl : l.length ≤ 7) : 0 ≤ num l ∧ num l < 72057594037927936 := by
  have h1 := num_range l h
  have h2 : (256 : Int) ^ l.length ≤ 72057594037927936 := by
    generalize l.length = k at hl
    rcases (by omega : k = 0 ∨ k = 1 ∨ k = 2 ∨ k = 3 ∨ k = 4 ∨ k = 5 ∨ k = 6 ∨ k = 7) with rfl | rfl | rfl | rfl | rfl | rfl | rfl | rfl <;> decide
  omega
/-- The first bytes, in the order in which they count. -/
def head (l : List Int) (size : Nat) (little : Bool) : List Int := if little then (l.take size).reverse else l.take size
theorem head_length (l : List Int) (size : Nat) (little : Bool) (h : size ≤ l.length) : (head l size little).length = size := by
  unfold head; split <;> simp <;> omega
theorem head_range (l : List Int) (size : Nat) (little : Bool) (h : ∀ x ∈ l, 0 ≤ x ∧ x < 256) : ∀ x ∈ head l size little, 0 ≤ x ∧ x < 256 := by
  intro x hx
  unfold head at hx
  split at hx
  · exact h x (List.mem_of_mem_take (List.mem_reverse.1 hx))
  · exact h x (List.mem_of_mem_take hx)
theorem getD_mem (l : List Int) (k : Nat) (hk : k < l.length) : l.getD k 0 ∈ l := by
  rw [List.getD_eq_getElem?_getD, List.getElem?_eq_getElem hk]
  exact List.getElem_mem hk
theorem take_snoc (l : List Int) (k : Nat) (hk : k < l.length) : l.take (k + 1) = l.take k ++ [l.getD k 0] := by
  rw [List.take_succ_eq_append_getElem hk, List.getD_eq_getElem?_getD, List.getElem?_eq_getElem hk]; rfl
theorem head_get (l : List Int) (size : Nat) (little : Bool) (k : Nat) (h : size ≤ l.length) (hk : k < size) : (head l size little).getD k 0 = if little then l.getD (size - 1 - k) 0 else l.getD k 0 := by
  cases little
  · simp [head, List.getElem?_take, hk]
  · have h1 : k < (l.take size).length := by rw [List.length_take]; omega
    simp only [head, if_true, List.getD_eq_getElem?_getD]
    rw [List.getElem?_reverse h1, List.length_take, Nat.min_eq_left h, List.getElem?_take, if_pos (by omega)]
/-- Get. -/
def getV (l : List Int) (size : Int) (little : Bool) : Int × Bool :=
  if size < 1 ∨ size > 8 ∨ (l.length : Int) < size then (0, false) else (num (head l size.toNat little), true)
/-- A number's k lowest bytes, the lowest first. -/
def le (n : Int) : Nat → List Int
  | 0 => []
  | k + 1 => le n k ++ [n / 256 ^ k % 256]
/-- The greatest first. -/
def be (n : Int) : Nat → List Int
  | 0 => []
  | k + 1 => (n / 256 ^ k % 256) :: be n k
theorem le_reverse (n : Int) (k : Nat) : (le n k).reverse = be n k := by
  induction k with
  | zero => rfl
  | succ k ih => simp [le, be, ih]
theorem le_length (n : Int) (k : Nat) : (le n k).length = k := by
  induction k with
  | zero => rfl
  | succ k ih => simp [le, ih]
theorem be_length (n : Int) (k : Nat) : (be n k).length = k := by rw [← le_reverse]; simp [le_length]
theorem le_range (n : Int) (k : Nat) : ∀ x ∈ le n k, 0 ≤ x ∧ x < 256 := by
  induction k with
  | zero => intro x hx; simp [le] at hx
  | succ k ih =>
    intro x hx
    simp only [le, List.mem_append, List.mem_singleton] at hx
    rcases hx with hx | rfl
    · exact ih x hx
    · omega
/-- How many bytes are put. -/
def many (size : Int) : Nat := (if size > 8 then 8 else size).toNat
/-- What is put. -/
def putL (n size : Int) (little : Bool) : List Int := if little then le n (many size) else be n (many size)
theorem many_le (size : Int) : many size ≤ 8 := by unfold many; split <;> omega
theorem putL_length (n size : Int) (little : Bool) : (putL n size little).length = many size := by unfold putL; split <;> simp [le_length, be_length]
theorem putL_range (n size : Int) (little : Bool) : ∀ x ∈ putL n size little, 0 ≤ x ∧ x < 256 := by
  intro x hx
  unfold putL at hx
  split at hx
  · exact le_range n _ x hx
  · rw [← le_reverse] at hx
    exact le_range n _ x (List.mem_reverse.1 hx)
theorem shr8 (n : Int) (k : Nat) : n / 2 ^ (8 * k) = n / 256 ^ k := by rw [Int.pow_mul]; rfl

/-! ### bytes as strings; how they stand -/
/-- A byte. -/
def B (l : List Int) : List UInt8 := l.map fun n => UInt8.ofNat n.toNat
theorem B_append (l m : List Int) : B (l ++ m) = B l ++ B m := by simp [B]
theorem str_B (l : List Int) : (strOfNums l).toList = B l := by rw [ByteArray.toList_eq]; rfl
theorem str_size (l : List Int) : (strOfNums l).size = l.length := strOfNums_size l
theorem byte_inj (a b : Int) (ha : 0 ≤ a ∧ a < 256) (hb : 0 ≤ b ∧ b < 256) (h : UInt8.ofNat a.toNat = UInt8.ofNat b.toNat) : a = b := by
  have := congrArg UInt8.toNat h
  simp only [UInt8.toNat_ofNat'] at this
  omega
theorem byte_lt (a b : Int) (ha : 0 ≤ a ∧ a < 256) (hb : 0 ≤ b ∧ b < 256) : UInt8.ofNat a.toNat < UInt8.ofNat b.toNat ↔ a < b := by
  rw [UInt8.lt_iff_toNat_lt]
  simp only [UInt8.toNat_ofNat']
  omega
theorem B_inj (l : List Int) : ∀ m : List Int, (∀ x ∈ l, 0 ≤ x ∧ x < 256) → (∀ x ∈ m, 0 ≤ x ∧ x < 256) → (B l = B m ↔ l = m) := by
  induction l with
  | nil => intro m _ _; cases m <;> simp [B]
  | cons a l ih =>
    intro m hl hm
    cases m with
    | nil => simp [B]
    | cons b m =>
      have := ih m (fun x hx => hl x (by simp [hx])) (fun x hx => hm x (by simp [hx]))
      simp only [B, List.map_cons, List.cons.injEq] at this ⊢
      rw [this]
      constructor
      · rintro ⟨h1, h2⟩; exact ⟨byte_inj a b (hl a (by simp)) (hm b (by simp)) h1, h2⟩
      · rintro ⟨h1, h2⟩; exact ⟨by rw [h1], h2⟩
theorem str_eq (l m : List Int) (hl : ∀ x ∈ l, 0 ≤ x ∧ x < 256) (hm : ∀ x ∈ m, 0 ≤ x ∧ x < 256) : (strOfNums l).toList = (strOfNums m).toList ↔ l = m := by
  rw [str_B, str_B, B_inj l m hl hm]
theorem less_append (x : List UInt8) : ∀ y : List UInt8, x.length = y.length → ∀ a b : UInt8, Op.bytesLess (x ++ [a]) (y ++ [b]) = (Op.bytesLess x y || (x == y && decide (a < b))) := by
  induction x with
  | nil => intro y h a b; cases y with
    | nil => simp [Op.bytesLess]
    | cons => simp at h
  | cons c x ih =>
    intro y h a b
    cases y with
    | nil => simp at h
    | cons d y =>
      simp only [List.cons_append, Op.bytesLess, ih y (by simpa using h)]
      have e : (c == d) = decide (c = d) := by by_cases h2 : c = d <;> simp [h2]
      rw [e]
      by_cases h1 : c < d <;> by_cases h2 : c = d <;> simp [h1, h2]
theorem W_less (i : Nat) : ∀ n m : Int, 0 ≤ n → n < m → m < 128 ^ i → Op.bytesLess (B (W n i)) (B (W m i)) = true := by
  induction i with
  | zero => intro n m h0 h1 h2; simp at h2; omega
  | succ i ih =>
    intro n m h0 h1 h2
    rw [Int.pow_succ] at h2
    simp only [W, B_append]
    rw [show B [n % 128 + 128] = [UInt8.ofNat (n % 128 + 128).toNat] from rfl, show B [m % 128 + 128] = [UInt8.ofNat (m % 128 + 128).toNat] from rfl, less_append _ _ (by simp [B, W_length])]
    rcases Int.lt_or_le (n / 128) (m / 128) with h | h
    · rw [ih _ _ (by omega) h (by omega)]; rfl
    · have e : n / 128 = m / 128 := by omega
      rw [e, (byte_lt _ _ (by omega) (by omega)).2 (show n % 128 + 128 < m % 128 + 128 by omega) |> decide_eq_true]
      simp
theorem sz_pow (n : Int) (h : sz n ≠ 9) : n / 128 < 128 ^ ((sz n).toNat - 1) := by
  unfold sz at *
  repeat' split
  all_goals simp_all
  all_goals omega
theorem vr_less (n m : Int) (h0 : 0 ≤ n) (h : n < m) (h2 : m < 18446744073709551616) (he : sz n = sz m) : Op.bytesLess (B (vr n)) (B (vr m)) = true := by
  unfold vr
  rw [he]
  split
  · rw [B_append, B_append, show B [n % 256] = [UInt8.ofNat (n % 256).toNat] from rfl, show B [m % 256] = [UInt8.ofNat (m % 256).toNat] from rfl, less_append _ _ (by simp [B, W_length])]
    rcases Int.lt_or_le (n / 256) (m / 256) with h' | h'
    · rw [W_less _ _ _ (by omega) h' (by omega)]; rfl
    · have e : n / 256 = m / 256 := by omega
      rw [e, (byte_lt _ _ (by omega) (by omega)).2 (show n % 256 < m % 256 by omega) |> decide_eq_true]
      simp
  · rename_i h9
    have := sz_pow m h9
    rw [B_append, B_append, show B [n % 128] = [UInt8.ofNat (n % 128).toNat] from rfl, show B [m % 128] = [UInt8.ofNat (m % 128).toNat] from rfl, less_append _ _ (by simp [B, W_length])]
    rcases Int.lt_or_le (n / 128) (m / 128) with h' | h'
    · rw [W_less _ _ _ (by omega) h' this]; rfl
    · have e : n / 128 = m / 128 := by omega
      rw [e, (byte_lt _ _ (by omega) (by omega)).2 (show n % 128 < m % 128 by omega) |> decide_eq_true]
      simp
end Go.Proofs.YtakkifedcbhgfaaDoor.MOct
