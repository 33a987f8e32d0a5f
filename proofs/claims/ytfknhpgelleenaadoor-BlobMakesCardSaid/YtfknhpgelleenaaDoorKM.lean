/- Texts laid as one: Plain facts on numbers as bytes (layer 2): how many bytes a number takes as a Var, its digits, the number that bytes begin with; no program and no memory. · Plain facts on numbers of three words (layer 1): sums and differences bit by bit and word by word, how they stand, how many bits they have, their digits; no program and no memory. · Plain facts on decimal digits (layer 1): a number's digits, the number of digits, texts that are a number; no program and no memory. · Plain facts on Go's way to part a number of two words by 10^19 (layer 1), and of three words word by word; no program and no memory. · Plain facts on boxes (layer 15): which may be, what is around two, what they share, their areas; no program and no memory. · What is put is got: plain facts about Vars and numbers of so many bytes. · Plain facts of layer 9: Zig and Zag. · Plain facts of layer 9: cells, nodes, their bytes. · Plain facts on where a box goes and how entries are parted (layer 19); no program and no memory. · Plain facts on shapes (layer 13): trees of points; what is counted of one, with bounds and without; which are light; no program and no memory. · Plain facts on shapes (layer 13): which may be; a collection around one. -/
import Derived.Laws.BitsAllLaws
import Derived.Laws.BitsLemmas
import Derived.Laws.Bits64
import Derived.Laws.Bits64b
import Derived.RowKit
import Derived.Lib.Bytes
import Derived.Laws.BytesArg
import Derived.Test.YtfknhpgelleenaaDoorWMore
import Derived.Laws.DeepNot64
namespace Go.Proofs.YtfknhpgelleenaaDoor.MOct
open Go Go.RowKit Go.Proofs.YtfknhpgelleenaaDoorW.PrintWords Go.Proofs.YtfknhpgelleenaaDoorW.PrintMore
set_option linter.unusedVariables false
set_option linter.unusedSimpArgs false

/-! ### small words -/
theorem shr_u64 (x s : Int) (h1 : s ≤ 64) : shr .u64 x s = x / 2 ^ s.toNat := by
  unfold shr
  have : min s.toNat (IntKind.bits .u64) = s.toNat := by
    have : IntKind.bits .u64 = 64 := rfl
    omega
  rw [this]
theorem or128 (b : Int) (h0 : 0 ≤ b) (h : b < 256) : Go.bits .or .u8 b 128 = b % 128 + 128 := by
  have hall : ∀ n : Fin 256, Go.bits .or .u8 ((n.val : Nat) : Int) 128 = ((n.val : Nat) : Int) % 128 + 128 := by decide +kernel
  have := hall ⟨b.toNat, by omega⟩
  simpa [Int.toNat_of_nonneg h0] using this
theorem andNot128 (b : Int) (h0 : 0 ≤ b) (h : b < 256) : Go.bits .andNot .u8 b 128 = b % 128 := by
  have hall : ∀ n : Fin 256, Go.bits .andNot .u8 ((n.val : Nat) : Int) 128 = ((n.val : Nat) : Int) % 128 := by decide +kernel
  have := hall ⟨b.toNat, by omega⟩
  simpa [Int.toNat_of_nonneg h0] using this
theorem and127 (b : Int) (h0 : 0 ≤ b) (h : b < 256) : Go.bits .and .u8 b 127 = b % 128 := by
  have hall : ∀ n : Fin 256, Go.bits .and .u8 ((n.val : Nat) : Int) 127 = ((n.val : Nat) : Int) % 128 := by decide +kernel
  have := hall ⟨b.toNat, by omega⟩
  simpa [Int.toNat_of_nonneg h0] using this
theorem wraps_u64 (n : Int) (h₀ : 0 ≤ n) (h₁ : n < 2 ^ 64) : IntKind.u64.wrap n = n := by rw [IntKind.wrap_u64]; omega
theorem and127_u64 (b : Int) (h0 : 0 ≤ b) (h : b < 18446744073709551616) : Go.bits .and .u64 b 127 = b % 128 :=
  bits_mask .u64 64 (by decide) wraps_u64 7 (by decide) b h0 h
theorem or_u64 (a b : Int) (i : Nat) (hi : i ≤ 64) (ha : 0 ≤ a) (ha2 : a * 2 ^ i < 18446744073709551616) (hb : 0 ≤ b) (hb2 : b < 2 ^ i) :
    Go.bits .or .u64 (a * 2 ^ i) b = a * 2 ^ i + b := by
  obtain ⟨m, rfl⟩ := Int.eq_ofNat_of_zero_le ha
  obtain ⟨n, rfl⟩ := Int.eq_ofNat_of_zero_le hb
  have e : (m : Int) * 2 ^ i = ((m * 2 ^ i : Nat) : Int) := by simp
  have hb3 : n < 2 ^ i := by exact_mod_cast hb2
  have ha3 : m * 2 ^ i < 2 ^ 64 := by
    rw [e] at ha2
    have : m * 2 ^ i < 18446744073709551616 := by omega
    simpa using this
  have hn : n < 2 ^ 64 := Nat.lt_of_lt_of_le hb3 (Nat.pow_le_pow_right (by omega) hi)
  rw [e, (bits_nat .u64 64 (by decide) wraps_u64 (m * 2 ^ i) n ha3 hn).2]
  rw [show m * 2 ^ i = 2 ^ i * m from Nat.mul_comm _ _, ← Nat.two_pow_add_eq_or_of_lt hb3]
  simp

/-! ### how many bytes; the digits -/
/-- How many bytes a number has as a Var. -/
def sz (n : Int) : Int := if n < 128 then 1 else if n < 16384 then 2 else if n < 2097152 then 3 else if n < 268435456 then 4 else if n < 34359738368 then 5 else if n < 4398046511104 then 6 else if n < 562949953421312 then 7 else if n < 72057594037927936 then 8 else 9
/-- i bytes of seven bits each, all with 128 more, the lowest last. -/
def W : Int → Nat → List Int
  | _, 0 => []
  | n, i + 1 => W (n / 128) i ++ [n % 128 + 128]
/-- A number as a Var. -/
def vr (n : Int) : List Int := if sz n = 9 then W (n / 256) 8 ++ [n % 256] else W (n / 128) ((sz n).toNat - 1) ++ [n % 128]
theorem sz_range (n : Int) : 1 ≤ sz n ∧ sz n ≤ 9 := by unfold sz; omega
theorem sz_le (n m : Int) (h : n ≤ m) : sz n ≤ sz m := by unfold sz; omega
theorem sz_at (n : Int) (k : Nat) (h1 : 1 ≤ k) (h8 : k ≤ 8) (hl : 128 ^ (k - 1) ≤ n ∨ k = 1) (hu : n < 128 ^ k) : sz n = k := by
  unfold sz
  rcases (by omega : k = 1 ∨ k = 2 ∨ k = 3 ∨ k = 4 ∨ k = 5 ∨ k = 6 ∨ k = 7 ∨ k = 8) with rfl | rfl | rfl | rfl | rfl | rfl | rfl | rfl <;> simp at hl hu ⊢ <;> omega
theorem sz_top (n : Int) (hl : 128 ^ 8 ≤ n) : sz n = 9 := by unfold sz; omega
theorem shr7 (n : Int) (k : Nat) (h : k ≤ 8) : n / 2 ^ (7 * (k : Int)).toNat = n / 128 ^ k := by
  rw [show (7 * (k : Int)).toNat = 7 * k by omega, Int.pow_mul]
  rfl
theorem W_length (i : Nat) : ∀ n : Int, (W n i).length = i := by
  induction i with
  | zero => intro n; rfl
  | succ i ih => intro n; simp [W, ih]
theorem W_range (i : Nat) : ∀ n : Int, ∀ x ∈ W n i, 128 ≤ x ∧ x < 256 := by
  induction i with
  | zero => intro n x hx; simp [W] at hx
  | succ i ih =>
    intro n x hx
    simp only [W, List.mem_append, List.mem_singleton] at hx
    rcases hx with hx | rfl
    · exact ih _ x hx
    · omega
theorem vr_length (n : Int) : (vr n).length = (sz n).toNat := by
  have := sz_range n
  unfold vr
  split <;> simp [W_length] <;> omega
theorem vr_length_int (n : Int) : ((vr n).length : Int) = sz n := by
  have := sz_range n
  have := vr_length n
  omega
theorem vr_range (n : Int) : ∀ x ∈ vr n, 0 ≤ x ∧ x < 256 := by
  intro x hx
  unfold vr at hx
  split at hx <;> simp only [List.mem_append, List.mem_singleton] at hx <;> rcases hx with hx | rfl
  · have := W_range _ _ x hx; omega
  · omega
  · have := W_range _ _ x hx; omega
  · omega
/-- The highest one ahead. -/
theorem W_head (i : Nat) : ∀ n : Int, W n (i + 1) = (n / 128 ^ i % 128 + 128) :: W n i := by
  induction i with
  | zero => intro n; simp [W]
  | succ i ih =>
    intro n
    have e : n / 128 / 128 ^ i = n / 128 ^ (i + 1) := by
      rw [Int.ediv_ediv_of_nonneg (by decide), Int.pow_succ, Int.mul_comm]
    rw [show W n (i + 1 + 1) = W (n / 128) (i + 1) ++ [n % 128 + 128] from rfl, ih, e]
    rfl
/-- The number of digits that stand one behind the other. -/
def V (l : List Int) : Int := l.foldl (fun a b => a * 128 + b % 128) 0
theorem V_snoc (l : List Int) (b : Int) : V (l ++ [b]) = V l * 128 + b % 128 := by simp [V, List.foldl_append]
theorem W_V (l : List Int) (h : ∀ x ∈ l, 128 ≤ x ∧ x < 256) : W (V l) l.length = l := by
  induction hl : l.length generalizing l with
  | zero => rw [List.eq_nil_of_length_eq_zero hl]; rfl
  | succ n ih =>
    obtain ⟨m, b, rfl⟩ : ∃ m b, l = m ++ [b] := by
      rcases List.eq_nil_or_concat l with e | ⟨m, b, e⟩
      · subst e; simp at hl
      · exact ⟨m, b, by simpa using e⟩
    have hm : m.length = n := by simp at hl; exact hl
    have hb := h b (by simp)
    have := ih m (fun x hx => h x (by simp [hx])) hm
    rw [V_snoc, W, show (V m * 128 + b % 128) / 128 = V m by omega, this, show (V m * 128 + b % 128) % 128 + 128 = b by omega]
theorem V_range (l : List Int) : 0 ≤ V l ∧ V l < 128 ^ l.length := by
  induction hl : l.length generalizing l with
  | zero => rw [List.eq_nil_of_length_eq_zero hl]; simp [V]
  | succ n ih =>
    obtain ⟨m, b, rfl⟩ : ∃ m b, l = m ++ [b] := by
      rcases List.eq_nil_or_concat l with e | ⟨m, b, e⟩
      · subst e; simp at hl
      · exact ⟨m, b, by simpa using e⟩
    have := ih m (by simp at hl; exact hl)
    rw [V_snoc, Int.pow_succ]
    omega

/-! ### the number that bytes begin with -/
/-- The loop of Take: the number so far, the place, what is left. -/
def tk (acc : Int) (i : Int) : List Int → Int × Int
  | [] => (0, 0)
  | c :: cs =>
    if i = 8 then (if sz (acc * 256 + c) = 9 then (acc * 256 + c, 9) else (0, 0))
    else if c < 128 then (if sz (acc * 128 + c % 128) = i + 1 then (acc * 128 + c % 128, i + 1) else (0, 0))
    else tk (acc * 128 + c % 128) (i + 1) cs
/-- What Take tells. -/
def take (l : List Int) : Int × Int := tk 0 0 l
/-- What is told of the bytes ahead (m, all with 128 more) and of those that are left: nothing, or a number whose Var stands there. -/
theorem tk_tells (l : List Int) : ∀ m : List Int, (∀ x ∈ m, 128 ≤ x ∧ x < 256) → (∀ x ∈ l, 0 ≤ x ∧ x < 256) → m.length ≤ 8 →
    tk (V m) m.length l = (0, 0) ∨ ∃ n, ∃ k : Nat, tk (V m) m.length l = (n, (m.length : Int) + k) ∧ 1 ≤ k ∧ k ≤ l.length ∧ 0 ≤ n ∧ n < 18446744073709551616 ∧ vr n = m ++ l.take k ∧ sz n = (m.length : Int) + k := by
  induction l with
  | nil => intro m _ _ _; exact .inl rfl
  | cons c cs ih =>
    intro m hm hl hlen
    have hc := hl c (by simp)
    have hV := V_range m
    have hW := W_V m hm
    simp only [tk]
    by_cases h8 : (m.length : Int) = 8
    · rw [if_pos h8]
      have h8' : m.length = 8 := by omega
      rw [h8'] at hV hW
      by_cases hs : sz (V m * 256 + c) = 9
      · rw [if_pos hs]
        refine .inr ⟨V m * 256 + c, 1, by rw [h8]; simp, by omega, by simp, by omega, by omega, ?_, by omega⟩
        unfold vr
        rw [if_pos hs, show (V m * 256 + c) / 256 = V m by omega, hW, show (V m * 256 + c) % 256 = c by omega]
        simp
      · rw [if_neg hs]; exact .inl rfl
    · rw [if_neg h8]
      have h7 : m.length ≤ 7 := by omega
      have hV2 : V m < 128 ^ 7 := Int.lt_of_lt_of_le hV.2 (by exact_mod_cast Nat.pow_le_pow_right (by omega) h7)
      by_cases ht : c < 128
      · rw [if_pos ht]
        by_cases hs : sz (V m * 128 + c % 128) = (m.length : Int) + 1
        · rw [if_pos hs]
          refine .inr ⟨V m * 128 + c % 128, 1, by simp, by omega, by simp, by omega, by omega, ?_, by omega⟩
          unfold vr
          rw [if_neg (by omega), hs, show ((m.length : Int) + 1).toNat - 1 = m.length by omega, show (V m * 128 + c % 128) / 128 = V m by omega, hW, show (V m * 128 + c % 128) % 128 = c by omega]
          simp
        · rw [if_neg hs]; exact .inl rfl
      · rw [if_neg ht]
        have := ih (m ++ [c]) (fun x hx => by
          simp only [List.mem_append, List.mem_singleton] at hx
          rcases hx with hx | rfl
          · exact hm x hx
          · omega) (fun x hx => hl x (by simp [hx])) (by simp; omega)
        rw [V_snoc] at this
        simp only [List.length_append, List.length_cons, List.length_nil, Nat.zero_add, Int.natCast_add, Int.cast_ofNat_Int] at this
        rcases this with h | ⟨n, k, h1, h2, h3, h4, h5, h6, h7⟩
        · exact .inl h
        · refine .inr ⟨n, k + 1, by rw [h1]; simp; omega, by omega, by simp; omega, h4, h5, ?_, by omega⟩
          rw [h6]; simp
theorem take_tells (l : List Int) (h : ∀ x ∈ l, 0 ≤ x ∧ x < 256) : take l = (0, 0) ∨ ∃ n, ∃ k : Nat, take l = (n, (k : Int)) ∧ 1 ≤ k ∧ k ≤ l.length ∧ 0 ≤ n ∧ n < 18446744073709551616 ∧ vr n = l.take k ∧ sz n = k := by
  rcases tk_tells l [] (by simp) h (by simp) with h | ⟨n, k, h1, h2, h3, h4, h5, h6, h7⟩
  · exact .inl h
  · exact .inr ⟨n, k, by have e : take l = tk (V []) 0 l := rfl; rw [e]; simpa using h1, h2, h3, h4, h5, by simpa using h6, by simpa using h7⟩

/-! ### numbers of so many bytes -/
/-- The number that bytes are, the greatest first. -/
def num (l : List Int) : Int := l.foldl (fun a b => a * 256 + b) 0
theorem num_snoc (l : List Int) (b : Int) : num (l ++ [b]) = num l * 256 + b := by simp [num, List.foldl_append]
theorem num_range (l : List Int) (h : ∀ x ∈ l, 0 ≤ x ∧ x < 256) : 0 ≤ num l ∧ num l < 256 ^ l.length := by
  induction hl : l.length generalizing l with
  | zero => rw [List.eq_nil_of_length_eq_zero hl]; simp [num]
  | succ n ih =>
    obtain ⟨m, b, rfl⟩ : ∃ m b, l = m ++ [b] := by
      rcases List.eq_nil_or_concat l with e | ⟨m, b, e⟩
      · subst e; simp at hl
      · exact ⟨m, b, by simpa using e⟩
    have := ih m (fun x hx => h x (by simp [hx])) (by simp at hl; exact hl)
    have hb := h b (by simp)
    rw [num_snoc, Int.pow_succ]
    omega
theorem num_lt (l : List Int) (h : ∀ x ∈ l, 0 ≤ x ∧ x < 256) (hl : l.length ≤ 7) : 0 ≤ num l ∧ num l < 72057594037927936 := by
  have h1 := num_range l h
  have h2 : (256 : Int) ^ l.length ≤ 72057594037927936 := by
    generalize l.length = k at hl
    rcases (by omega : k = 0 ∨ k = 1 ∨ k = 2 ∨ k = 3 ∨ k = 4 ∨ k = 5 ∨ k = 6 ∨ k = 7) with rfl | rfl | rfl | rfl | rfl | rfl | rfl | rfl <;> decide
  omega
/-- The first bytes, in the order in which they count. -/
def head (l : List Int) (size : Nat) (little : Bool) : List Int := if little then (l.take size).reverse else l.take size
theorem head_length (l : List Int) (size : Nat) (little : Bool) (h : size ≤ l.length) : (head l size little).length = size := by
  unfold head; split <;> simp <;> omega
theorem head_range (l : List Int) (size : Nat) (little : Bool) (h : ∀ x ∈ l, 0 ≤ x ∧ x < 256) : ∀ x ∈ head l size little, 0 ≤ x ∧ x < 256 := by
  intro x hx
  unfold head at hx
  split at hx
  · exact h x (List.mem_of_mem_take (List.mem_reverse.1 hx))
  · exact h x (List.mem_of_mem_take hx)
theorem getD_mem (l : List Int) (k : Nat) (hk : k < l.length) : l.getD k 0 ∈ l := by
  rw [List.getD_eq_getElem?_getD, List.getElem?_eq_getElem hk]
  exact List.getElem_mem hk
theorem take_snoc (l : List Int) (k : Nat) (hk : k < l.length) : l.take (k + 1) = l.take k ++ [l.getD k 0] := by
  rw [List.take_succ_eq_append_getElem hk, List.getD_eq_getElem?_getD, List.getElem?_eq_getElem hk]; rfl
theorem head_get (l : List Int) (size : Nat) (little : Bool) (k : Nat) (h : size ≤ l.length) (hk : k < size) : (head l size little).getD k 0 = if little then l.getD (size - 1 - k) 0 else l.getD k 0 := by
  cases little
  · simp [head, List.getElem?_take, hk]
  · have h1 : k < (l.take size).length := by rw [List.length_take]; omega
    simp only [head, if_true, List.getD_eq_getElem?_getD]
    rw [List.getElem?_reverse h1, List.length_take, Nat.min_eq_left h, List.getElem?_take, if_pos (by omega)]
/-- Get. -/
def getV (l : List Int) (size : Int) (little : Bool) : Int × Bool :=
  if size < 1 ∨ size > 8 ∨ (l.length : Int) < size then (0, false) else (num (head l size.toNat little), true)
/-- A number's k lowest bytes, the lowest first. -/
def le (n : Int) : Nat → List Int
  | 0 => []
  | k + 1 => le n k ++ [n / 256 ^ k % 256]
/-- The greatest first. -/
def be (n : Int) : Nat → List Int
  | 0 => []
  | k + 1 => (n / 256 ^ k % 256) :: be n k
theorem le_reverse (n : Int) (k : Nat) : (le n k).reverse = be n k := by
  induction k with
  | zero => rfl
  | succ k ih => simp [le, be, ih]
theorem le_length (n : Int) (k : Nat) : (le n k).length = k := by
  induction k with
  | zero => rfl
  | succ k ih => simp [le, ih]
theorem be_length (n : Int) (k : Nat) : (be n k).length = k := by rw [← le_reverse]; simp [le_length]
theorem le_range (n : Int) (k : Nat) : ∀ x ∈ le n k, 0 ≤ x ∧ x < 256 := by
  induction k with
  | zero => intro x hx; simp [le] at hx
  | succ k ih =>
    intro x hx
    simp only [le, List.mem_append, List.mem_singleton] at hx
    rcases hx with hx | rfl
    · exact ih x hx
    · omega
/-- How many bytes are put. -/
def many (size : Int) : Nat := (if size > 8 then 8 else size).toNat
/-- What is put. -/
def putL (n size : Int) (little : Bool) : List Int := if little then le n (many size) else be n (many size)
theorem many_le (size : Int) : many size ≤ 8 := by unfold many; split <;> omega
theorem putL_length (n size : Int) (little : Bool) : (putL n size little).length = many size := by unfold putL; split <;> simp [le_length, be_length]
theorem putL_range (n size : Int) (little : Bool) : ∀ x ∈ putL n size little, 0 ≤ x ∧ x < 256 := by
  intro x hx
  unfold putL at hx
  split at hx
  · exact le_range n _ x hx
  · rw [← le_reverse] at hx
    exact le_range n _ x (List.mem_reverse.1 hx)
theorem shr8 (n : Int) (k : Nat) : n / 2 ^ (8 * k) = n / 256 ^ k := by rw [Int.pow_mul]; rfl

/-! ### bytes as strings; how they stand -/
/-- A byte. -/
def B (l : List Int) : List UInt8 := l.map fun n => UInt8.ofNat n.toNat
theorem B_append (l m : List Int) : B (l ++ m) = B l ++ B m := by simp [B]
theorem str_B (l : List Int) : (strOfNums l).toList = B l := by rw [ByteArray.toList_eq]; rfl
theorem str_size (l : List Int) : (strOfNums l).size = l.length := strOfNums_size l
theorem byte_inj (a b : Int) (ha : 0 ≤ a ∧ a < 256) (hb : 0 ≤ b ∧ b < 256) (h : UInt8.ofNat a.toNat = UInt8.ofNat b.toNat) : a = b := by
  have := congrArg UInt8.toNat h
  simp only [UInt8.toNat_ofNat'] at this
  omega
theorem byte_lt (a b : Int) (ha : 0 ≤ a ∧ a < 256) (hb : 0 ≤ b ∧ b < 256) : UInt8.ofNat a.toNat < UInt8.ofNat b.toNat ↔ a < b := by
  rw [UInt8.lt_iff_toNat_lt]
  simp only [UInt8.toNat_ofNat']
  omega
theorem B_inj (l : List Int) : ∀ m : List Int, (∀ x ∈ l, 0 ≤ x ∧ x < 256) → (∀ x ∈ m, 0 ≤ x ∧ x < 256) → (B l = B m ↔ l = m) := by
  induction l with
  | nil => intro m _ _; cases m <;> simp [B]
  | cons a l ih =>
    intro m hl hm
    cases m with
    | nil => simp [B]
    | cons b m =>
      have := ih m (fun x hx => hl x (by simp [hx])) (fun x hx => hm x (by simp [hx]))
      simp only [B, List.map_cons, List.cons.injEq] at this ⊢
      rw [this]
      constructor
      · rintro ⟨h1, h2⟩; exact ⟨byte_inj a b (hl a (by simp)) (hm b (by simp)) h1, h2⟩
      · rintro ⟨h1, h2⟩; exact ⟨by rw [h1], h2⟩
theorem str_eq (l m : List Int) (hl : ∀ x ∈ l, 0 ≤ x ∧ x < 256) (hm : ∀ x ∈ m, 0 ≤ x ∧ x < 256) : (strOfNums l).toList = (strOfNums m).toList ↔ l = m := by
  rw [str_B, str_B, B_inj l m hl hm]
theorem less_append (x : List UInt8) : ∀ y : List UInt8, x.length = y.length → ∀ a b : UInt8, Op.bytesLess (x ++ [a]) (y ++ [b]) = (Op.bytesLess x y || (x == y && decide (a < b))) := by
  induction x with
  | nil => intro y h a b; cases y with
    | nil => simp [Op.bytesLess]
    | cons => simp at h
  | cons c x ih =>
    intro y h a b
    cases y with
    | nil => simp at h
    | cons d y =>
      simp only [List.cons_append, Op.bytesLess, ih y (by simpa using h)]
      have e : (c == d) = decide (c = d) := by by_cases h2 : c = d <;> simp [h2]
      rw [e]
      by_cases h1 : c < d <;> by_cases h2 : c = d <;> simp [h1, h2]
theorem W_less (i : Nat) : ∀ n m : Int, 0 ≤ n → n < m → m < 128 ^ i → Op.bytesLess (B (W n i)) (B (W m i)) = true := by
  induction i with
  | zero => intro n m h0 h1 h2; simp at h2; omega
  | succ i ih =>
    intro n m h0 h1 h2
    rw [Int.pow_succ] at h2
    simp only [W, B_append]
    rw [show B [n % 128 + 128] = [UInt8.ofNat (n % 128 + 128).toNat] from rfl, show B [m % 128 + 128] = [UInt8.ofNat (m % 128 + 128).toNat] from rfl, less_append _ _ (by simp [B, W_length])]
    rcases Int.lt_or_le (n / 128) (m / 128) with h | h
    · rw [ih _ _ (by omega) h (by omega)]; rfl
    · have e : n / 128 = m / 128 := by omega
      rw [e, (byte_lt _ _ (by omega) (by omega)).2 (show n % 128 + 128 < m % 128 + 128 by omega) |> decide_eq_true]
      simp
theorem sz_pow (n : Int) (h : sz n ≠ 9) : n / 128 < 128 ^ ((sz n).toNat - 1) := by
  unfold sz at *
  repeat' split
  all_goals simp_all
  all_goals omega
theorem vr_less (n m : Int) (h0 : 0 ≤ n) (h : n < m) (h2 : m < 18446744073709551616) (he : sz n = sz m) : Op.bytesLess (B (vr n)) (B (vr m)) = true := by
  unfold vr
  rw [he]
  split
  · rw [B_append, B_append, show B [n % 256] = [UInt8.ofNat (n % 256).toNat] from rfl, show B [m % 256] = [UInt8.ofNat (m % 256).toNat] from rfl, less_append _ _ (by simp [B, W_length])]
    rcases Int.lt_or_le (n / 256) (m / 256) with h' | h'
    · rw [W_less _ _ _ (by omega) h' (by omega)]; rfl
    · have e : n / 256 = m / 256 := by omega
      rw [e, (byte_lt _ _ (by omega) (by omega)).2 (show n % 256 < m % 256 by omega) |> decide_eq_true]
      simp
  · rename_i h9
    have := sz_pow m h9
    rw [B_append, B_append, show B [n % 128] = [UInt8.ofNat (n % 128).toNat] from rfl, show B [m % 128] = [UInt8.ofNat (m % 128).toNat] from rfl, less_append _ _ (by simp [B, W_length])]
    rcases Int.lt_or_le (n / 128) (m / 128) with h' | h'
    · rw [W_less _ _ _ (by omega) h' this]; rfl
    · have e : n / 128 = m / 128 := by omega
      rw [e, (byte_lt _ _ (by omega) (by omega)).2 (show n % 128 < m % 128 by omega) |> decide_eq_true]
      simp
end Go.Proofs.YtfknhpgelleenaaDoor.MOct
namespace Go.Proofs.YtfknhpgelleenaaDoor.MWide
open Go
set_option linter.unusedVariables false
set_option linter.unusedSimpArgs false

/-! ### words -/
def w0 (n : Int) : Int := n % 18446744073709551616
def w1 (n : Int) : Int := n / 18446744073709551616 % 18446744073709551616
def w2 (n : Int) : Int := n / 340282366920938463463374607431768211456 % 18446744073709551616
def of3 (a b c : Int) : Int := a + 18446744073709551616 * b + 340282366920938463463374607431768211456 * c
/-- A number of three words. -/
def U192 (n : Int) : Prop := 0 ≤ n ∧ n < 6277101735386680763835789423207666416102355444464034512896
def W64 (n : Int) : Prop := 0 ≤ n ∧ n < 18446744073709551616
theorem w0_64 (n : Int) : W64 (w0 n) := by unfold w0 W64; omega
theorem w1_64 (n : Int) : W64 (w1 n) := by unfold w1 W64; omega
theorem w2_64 (n : Int) : W64 (w2 n) := by unfold w2 W64; omega
theorem of3_w {n : Int} (h : U192 n) : of3 (w0 n) (w1 n) (w2 n) = n := by unfold of3 w0 w1 w2; unfold U192 at h; omega
theorem of3_u {a b c : Int} (ha : W64 a) (hb : W64 b) (hc : W64 c) : U192 (of3 a b c) := by unfold of3 U192; unfold W64 at *; omega
theorem w0_of3 {a b c : Int} (ha : W64 a) (hb : W64 b) (hc : W64 c) : w0 (of3 a b c) = a := by unfold of3 w0; unfold W64 at *; omega
theorem w1_of3 {a b c : Int} (ha : W64 a) (hb : W64 b) (hc : W64 c) : w1 (of3 a b c) = b := by unfold of3 w1; unfold W64 at *; omega
theorem w2_of3 {a b c : Int} (ha : W64 a) (hb : W64 b) (hc : W64 c) : w2 (of3 a b c) = c := by unfold of3 w2; unfold W64 at *; omega
theorem u64_u {n : Int} (h : W64 n) : U192 n := by unfold U192; unfold W64 at h; omega
theorem w0_64' {n : Int} (h : W64 n) : w0 n = n := by unfold w0; unfold W64 at h; omega
theorem w1_64' {n : Int} (h : W64 n) : w1 n = 0 := by unfold w1; unfold W64 at h; omega
theorem w2_64' {n : Int} (h : W64 n) : w2 n = 0 := by unfold w2; unfold W64 at h; omega
theorem w_ext {a b : Int} (ha : U192 a) (hb : U192 b) (h0 : w0 a = w0 b) (h1 : w1 a = w1 b) (h2 : w2 a = w2 b) : a = b := by
  rw [← of3_w ha, ← of3_w hb, h0, h1, h2]
theorem w_mul {a b : Int} (ha : W64 a) (hb : W64 b) : 0 ≤ a * b ∧ a * b < 340282366920938463463374607431768211456 := by
  obtain ⟨a0, a1⟩ := ha
  obtain ⟨b0, b1⟩ := hb
  refine ⟨Int.mul_nonneg a0 b0, ?_⟩
  have h1 : a * b ≤ a * 18446744073709551615 := Int.mul_le_mul_of_nonneg_left (by omega) a0
  omega
theorem u_mul {a b : Int} (ha : W64 a) (hb : W64 b) : U192 (a * b) := by have := w_mul ha hb; unfold U192; omega

/-! ### dividing -/
theorem div_of {a m q r : Int} (h : a = m * q + r) (h0 : 0 ≤ r) (h1 : r < m) : a / m = q := by
  subst h
  rw [Int.add_comm, Int.add_mul_ediv_left _ _ (by omega), Int.ediv_eq_zero_of_lt h0 h1, Int.zero_add]
theorem mod_of {a m q r : Int} (h : a = m * q + r) (h0 : 0 ≤ r) (h1 : r < m) : a % m = r := by
  subst h
  rw [Int.add_comm, Int.add_mul_emod_self_left, Int.emod_eq_of_lt h0 h1]
theorem parts (a m : Int) : a = m * (a / m) + a % m := (Int.mul_ediv_add_emod a m).symm
theorem p2 (i : Nat) : (0 : Int) < 2 ^ i := Int.pow_pos (by decide)
theorem p2s (i : Nat) : (2 : Int) ^ (i + 1) = 2 * 2 ^ i := by rw [Int.pow_succ, Int.mul_comm]

/-! ### bits -/
/-- The i-th bit. -/
def bt (n : Int) (i : Nat) : Int := n / 2 ^ i % 2
theorem bt01 (n : Int) (i : Nat) : 0 ≤ bt n i ∧ bt n i ≤ 1 := by unfold bt; omega
theorem mod_succ (a : Int) (i : Nat) : a % 2 ^ (i + 1) = 2 ^ i * bt a i + a % 2 ^ i := by
  have hp := p2 i
  have h1 := parts a (2 ^ i)
  have h2 := parts (a / 2 ^ i) 2
  have hr0 := Int.emod_nonneg a (Int.ne_of_gt hp)
  have hr1 := Int.emod_lt_of_pos a hp
  have hb := bt01 a i
  unfold bt at hb ⊢
  generalize a / 2 ^ i = q at *
  generalize a % 2 ^ i = r at *
  generalize q / 2 = d at *
  rw [p2s]
  generalize (2 : Int) ^ i = P at *
  generalize q % 2 = t at *
  refine mod_of (q := d) ?_ ?_ ?_
  · rw [h1, h2, Int.mul_add, Int.mul_assoc, Int.mul_left_comm P 2 d]; omega
  · rcases (by omega : t = 0 ∨ t = 1) with rfl | rfl <;> omega
  · rcases (by omega : t = 0 ∨ t = 1) with rfl | rfl <;> omega
theorem div_succ (a : Int) (i : Nat) : a / 2 ^ i = 2 * (a / 2 ^ (i + 1)) + bt a i := by
  rw [p2s, Int.mul_comm 2 (2 ^ i), ← Int.ediv_ediv_of_nonneg (Int.le_of_lt (p2 i))]
  unfold bt
  omega
/-- The bits of a number, a word at a time. -/
theorem bt_word (n : Int) (q r : Nat) (hr : r < 64) : n / 2 ^ (64 * q) % 18446744073709551616 / 2 ^ r % 2 = bt n (64 * q + r) := by
  unfold bt
  rw [Int.pow_add, ← Int.ediv_ediv_of_nonneg (Int.le_of_lt (p2 (64 * q)))]
  generalize n / 2 ^ (64 * q) = m
  have e : (18446744073709551616 : Int) = 2 ^ r * (2 * 2 ^ (63 - r)) := by
    rw [← p2s, ← Int.pow_add, show r + (63 - r + 1) = 64 by omega]; rfl
  have hp := p2 r
  have hp2 := p2 (63 - r)
  have h1 := parts m 18446744073709551616
  rw [e] at h1 ⊢
  generalize (2 : Int) ^ (63 - r) = R at *
  generalize (2 : Int) ^ r = P at *
  generalize m / (P * (2 * R)) = D at *
  generalize m % (P * (2 * R)) = x at *
  have h2 : m / P = x / P + 2 * (R * D) := by
    rw [h1, Int.mul_assoc, Int.mul_assoc, Int.add_comm, Int.add_mul_ediv_left _ _ (by omega)]
  rw [h2]
  omega
theorem bt_w (n : Int) (i : Nat) (h : i < 192) : bt n i = (if i < 64 then w0 n else if i < 128 then w1 n else w2 n) / 2 ^ (i % 64) % 2 := by
  split
  · have := bt_word n 0 i (by omega)
    rw [show 64 * 0 + i = i by omega] at this
    rw [← this, show i % 64 = i by omega]
    unfold w0
    simp
  · split
    · have := bt_word n 1 (i - 64) (by omega)
      rw [show 64 * 1 + (i - 64) = i by omega] at this
      rw [← this, show i % 64 = i - 64 by omega]
      unfold w1
      rfl
    · have := bt_word n 2 (i - 128) (by omega)
      rw [show 64 * 2 + (i - 128) = i by omega] at this
      rw [← this, show i % 64 = i - 128 by omega]
      unfold w2
      rfl

/-! ### a bit more -/
theorem put_lt {n : Int} {i : Nat} (h : U192 n) (hi : i < 192) (hb : bt n i = 0) : U192 (n + 2 ^ i) := by
  obtain ⟨h0, h1⟩ := h
  have hp := p2 i
  refine ⟨by omega, ?_⟩
  have e : (6277101735386680763835789423207666416102355444464034512896 : Int) = 2 ^ (i + 1) * 2 ^ (191 - i) := by
    rw [← Int.pow_add, show i + 1 + (191 - i) = 192 by omega]; rfl
  rw [e] at h1 ⊢
  have e1 := div_succ n i
  rw [hb, Int.add_zero] at e1
  have e2 := parts n (2 ^ i)
  rw [e1] at e2
  have hr1 := Int.emod_lt_of_pos n hp
  have hq : n / 2 ^ (i + 1) < 2 ^ (191 - i) := Int.ediv_lt_of_lt_mul (p2 _) (by rw [Int.mul_comm]; exact h1)
  rw [p2s] at *
  generalize n / (2 * 2 ^ i) = q at *
  generalize n % 2 ^ i = r at *
  have h3 : 2 * 2 ^ i * (q + 1) ≤ 2 * 2 ^ i * 2 ^ (191 - i) := Int.mul_le_mul_of_nonneg_left (by omega) (by omega)
  rw [Int.mul_add, Int.mul_one] at h3
  rw [Int.mul_left_comm, ← Int.mul_assoc] at e2
  omega
/-- In a word. -/
theorem put_word {x : Int} {r : Nat} (hr : r < 64) (h : W64 x) (hb : x / 2 ^ r % 2 = 0) : x + 2 ^ r < 18446744073709551616 := by
  obtain ⟨h0, h1⟩ := h
  have hp := p2 r
  have e : (18446744073709551616 : Int) = 2 ^ (r + 1) * 2 ^ (63 - r) := by
    rw [← Int.pow_add, show r + 1 + (63 - r) = 64 by omega]; rfl
  rw [e] at h1 ⊢
  have e1 := div_succ x r
  unfold bt at e1
  rw [hb, Int.add_zero] at e1
  have e2 := parts x (2 ^ r)
  rw [e1] at e2
  have hr1 := Int.emod_lt_of_pos x hp
  have hq : x / 2 ^ (r + 1) < 2 ^ (63 - r) := Int.ediv_lt_of_lt_mul (p2 _) (by rw [Int.mul_comm]; exact h1)
  rw [p2s] at *
  generalize x / (2 * 2 ^ r) = q at *
  generalize x % 2 ^ r = s at *
  have h3 : 2 * 2 ^ r * (q + 1) ≤ 2 * 2 ^ r * 2 ^ (63 - r) := Int.mul_le_mul_of_nonneg_left (by omega) (by omega)
  rw [Int.mul_add, Int.mul_one] at h3
  rw [Int.mul_left_comm, ← Int.mul_assoc] at e2
  omega
theorem put_w0 {n : Int} {i : Nat} (h : U192 n) (hi : i < 64) (hb : bt n i = 0) : w0 (n + 2 ^ i) = w0 n + 2 ^ i ∧ w1 (n + 2 ^ i) = w1 n ∧ w2 (n + 2 ^ i) = w2 n := by
  have hw := put_word hi (w0_64 n) (by rw [bt_w n i (by omega), if_pos hi, Nat.mod_eq_of_lt hi] at hb; exact hb)
  have e := of3_w h
  have a := w0_64 n; have b := w1_64 n; have c := w2_64 n
  have hp := p2 i
  generalize w0 n = x at *; generalize w1 n = y at *; generalize w2 n = z at *
  generalize (2 : Int) ^ i = P at *
  subst e
  unfold w0 w1 w2 of3
  unfold W64 at *
  omega
theorem put_w1 {n : Int} {i : Nat} (h : U192 n) (hi : 64 ≤ i) (hi2 : i < 128) (hb : bt n i = 0) : w0 (n + 2 ^ i) = w0 n ∧ w1 (n + 2 ^ i) = w1 n + 2 ^ (i - 64) ∧ w2 (n + 2 ^ i) = w2 n := by
  have hw := put_word (r := i - 64) (by omega) (w1_64 n) (by rw [bt_w n i (by omega), if_neg (by omega), if_pos hi2, show i % 64 = i - 64 by omega] at hb; exact hb)
  have e := of3_w h
  have a := w0_64 n; have b := w1_64 n; have c := w2_64 n
  have hp := p2 (i - 64)
  have e2 : (2 : Int) ^ i = 18446744073709551616 * 2 ^ (i - 64) := by
    rw [show (18446744073709551616 : Int) = 2 ^ 64 from rfl, ← Int.pow_add, show 64 + (i - 64) = i by omega]
  rw [e2]
  generalize w0 n = x at *; generalize w1 n = y at *; generalize w2 n = z at *
  generalize (2 : Int) ^ (i - 64) = P at *
  subst e
  unfold w0 w1 w2 of3
  unfold W64 at *
  omega
theorem put_w2 {n : Int} {i : Nat} (h : U192 n) (hi : 128 ≤ i) (hi2 : i < 192) (hb : bt n i = 0) : w0 (n + 2 ^ i) = w0 n ∧ w1 (n + 2 ^ i) = w1 n ∧ w2 (n + 2 ^ i) = w2 n + 2 ^ (i - 128) := by
  have hw := put_word (r := i - 128) (by omega) (w2_64 n) (by rw [bt_w n i (by omega), if_neg (by omega), if_neg (by omega), show i % 64 = i - 128 by omega] at hb; exact hb)
  have e := of3_w h
  have a := w0_64 n; have b := w1_64 n; have c := w2_64 n
  have hp := p2 (i - 128)
  have e2 : (2 : Int) ^ i = 340282366920938463463374607431768211456 * 2 ^ (i - 128) := by
    rw [show (340282366920938463463374607431768211456 : Int) = 2 ^ 128 from rfl, ← Int.pow_add, show 128 + (i - 128) = i by omega]
  rw [e2]
  generalize w0 n = x at *; generalize w1 n = y at *; generalize w2 n = z at *
  generalize (2 : Int) ^ (i - 128) = P at *
  subst e
  unfold w0 w1 w2 of3
  unfold W64 at *
  omega
/-- A number below 2^i has no bit from i on; one that 2^(i+1) divides has none below. -/
theorem bt_lt {n : Int} {i : Nat} (h0 : 0 ≤ n) (h : n < 2 ^ i) : bt n i = 0 := by unfold bt; rw [Int.ediv_eq_zero_of_lt h0 h]; rfl
theorem bt_mul (m : Int) (i : Nat) : bt (2 ^ (i + 1) * m) i = 0 := by
  unfold bt
  rw [p2s, Int.mul_assoc, Int.mul_left_comm, Int.mul_ediv_cancel_left _ (Int.ne_of_gt (p2 i))]
  omega

/-! ### sums and differences -/
/-- What is carried on from i bits. -/
def cry (a b : Int) (i : Nat) : Int := (a % 2 ^ i + b % 2 ^ i) / 2 ^ i
def sumO (a b : Int) (i : Nat) : Int := (a % 2 ^ i + b % 2 ^ i) % 2 ^ i
theorem cry01 (a b : Int) (i : Nat) : 0 ≤ cry a b i ∧ cry a b i ≤ 1 := by
  unfold cry
  have hp := p2 i
  have a0 := Int.emod_nonneg a (Int.ne_of_gt hp); have a1 := Int.emod_lt_of_pos a hp
  have b0 := Int.emod_nonneg b (Int.ne_of_gt hp); have b1 := Int.emod_lt_of_pos b hp
  refine ⟨Int.ediv_nonneg (by omega) (by omega), ?_⟩
  have : (a % 2 ^ i + b % 2 ^ i) / 2 ^ i < 2 := Int.ediv_lt_of_lt_mul hp (by omega)
  omega
theorem sumO_lt (a b : Int) (i : Nat) : 0 ≤ sumO a b i ∧ sumO a b i < 2 ^ i := by
  unfold sumO
  exact ⟨Int.emod_nonneg _ (Int.ne_of_gt (p2 i)), Int.emod_lt_of_pos _ (p2 i)⟩
theorem add_step (a b : Int) (i : Nat) : cry a b (i + 1) = (bt a i + bt b i + cry a b i) / 2 ∧ sumO a b (i + 1) = sumO a b i + 2 ^ i * ((bt a i + bt b i + cry a b i) % 2) := by
  have ha := mod_succ a i
  have hb := mod_succ b i
  have h1 := parts (a % 2 ^ i + b % 2 ^ i) (2 ^ i)
  have h2 := sumO_lt a b i
  have h3 := cry01 a b i
  have h4 := bt01 a i
  have h5 := bt01 b i
  unfold cry sumO at *
  rw [ha, hb, p2s]
  have hp := p2 i
  generalize (a % 2 ^ i + b % 2 ^ i) / 2 ^ i = c at *
  generalize (a % 2 ^ i + b % 2 ^ i) % 2 ^ i = o at *
  generalize a % 2 ^ i = x at *; generalize b % 2 ^ i = y at *
  generalize (2 : Int) ^ i = P at *
  generalize bt a i = s at *; generalize bt b i = t at *
  have e : P * s + x + (P * t + y) = 2 * P * ((s + t + c) / 2) + (o + P * ((s + t + c) % 2)) := by
    have hd := parts (s + t + c) 2
    generalize (s + t + c) / 2 = d at *
    generalize (s + t + c) % 2 = m at *
    have : P * s + x + (P * t + y) = P * (s + t + c) + o := by rw [Int.mul_add, Int.mul_add]; omega
    rw [this, hd, Int.mul_add, Int.mul_assoc, Int.mul_left_comm]; omega
  have hm : (s + t + c) % 2 = 0 ∨ (s + t + c) % 2 = 1 := by omega
  have hlo : 0 ≤ o + P * ((s + t + c) % 2) := by rcases hm with h | h <;> rw [h] <;> omega
  have hhi : o + P * ((s + t + c) % 2) < 2 * P := by rcases hm with h | h <;> rw [h] <;> omega
  exact ⟨div_of e hlo hhi, mod_of e hlo hhi⟩
theorem cry_top {a b : Int} (ha : U192 a) (hb : U192 b) : (cry a b 192 = 0 ↔ a + b < 6277101735386680763835789423207666416102355444464034512896) ∧ (a + b < 6277101735386680763835789423207666416102355444464034512896 → sumO a b 192 = a + b) := by
  unfold U192 at *
  unfold cry sumO
  rw [show (2 : Int) ^ 192 = 6277101735386680763835789423207666416102355444464034512896 from rfl]
  omega
theorem cry_0 (a b : Int) : cry a b 0 = 0 ∧ sumO a b 0 = 0 := by
  unfold cry sumO
  rw [Int.pow_zero]; omega
/-- What is borrowed. -/
def bor (a b : Int) (i : Nat) : Int := -((a % 2 ^ i - b % 2 ^ i) / 2 ^ i)
def difO (a b : Int) (i : Nat) : Int := (a % 2 ^ i - b % 2 ^ i) % 2 ^ i
theorem bor01 (a b : Int) (i : Nat) : 0 ≤ bor a b i ∧ bor a b i ≤ 1 := by
  unfold bor
  have hp := p2 i
  have a0 := Int.emod_nonneg a (Int.ne_of_gt hp); have a1 := Int.emod_lt_of_pos a hp
  have b0 := Int.emod_nonneg b (Int.ne_of_gt hp); have b1 := Int.emod_lt_of_pos b hp
  have h1 : (a % 2 ^ i - b % 2 ^ i) / 2 ^ i < 1 := Int.ediv_lt_of_lt_mul hp (by omega)
  have h2 : -1 ≤ (a % 2 ^ i - b % 2 ^ i) / 2 ^ i := Int.le_ediv_of_mul_le hp (by omega)
  omega
theorem difO_lt (a b : Int) (i : Nat) : 0 ≤ difO a b i ∧ difO a b i < 2 ^ i := by
  unfold difO
  exact ⟨Int.emod_nonneg _ (Int.ne_of_gt (p2 i)), Int.emod_lt_of_pos _ (p2 i)⟩
theorem sub_step (a b : Int) (i : Nat) : bor a b (i + 1) = (if bt b i + bor a b i > bt a i then 1 else 0) ∧ difO a b (i + 1) = difO a b i + 2 ^ i * ((bt a i + (bt b i + bor a b i)) % 2) := by
  have ha := mod_succ a i
  have hb := mod_succ b i
  have h1 := parts (a % 2 ^ i - b % 2 ^ i) (2 ^ i)
  have h2 := difO_lt a b i
  have h3 := bor01 a b i
  have h4 := bt01 a i
  have h5 := bt01 b i
  unfold bor difO at *
  rw [ha, hb, p2s]
  have hp := p2 i
  generalize (a % 2 ^ i - b % 2 ^ i) / 2 ^ i = c at *
  generalize (a % 2 ^ i - b % 2 ^ i) % 2 ^ i = o at *
  generalize a % 2 ^ i = x at *; generalize b % 2 ^ i = y at *
  generalize (2 : Int) ^ i = P at *
  generalize bt a i = s at *; generalize bt b i = t at *
  have e : P * s + x - (P * t + y) = 2 * P * ((s - t + c) / 2) + (o + P * ((s - t + c) % 2)) := by
    have hd := parts (s - t + c) 2
    generalize (s - t + c) / 2 = d at *
    generalize (s - t + c) % 2 = m at *
    have : P * s + x - (P * t + y) = P * (s - t + c) + o := by rw [Int.mul_add, Int.mul_sub]; omega
    rw [this, hd, Int.mul_add, Int.mul_assoc, Int.mul_left_comm]; omega
  have hm : (s - t + c) % 2 = 0 ∨ (s - t + c) % 2 = 1 := by omega
  have hlo : 0 ≤ o + P * ((s - t + c) % 2) := by rcases hm with h | h <;> rw [h] <;> omega
  have hhi : o + P * ((s - t + c) % 2) < 2 * P := by rcases hm with h | h <;> rw [h] <;> omega
  rw [div_of e hlo hhi, mod_of e hlo hhi]
  refine ⟨?_, ?_⟩
  · split <;> omega
  · rw [show (s - t + c) % 2 = (s + (t + -c)) % 2 by omega]
theorem bor_top {a b : Int} (ha : U192 a) (hb : U192 b) : (bor a b 192 = 0 ↔ b ≤ a) ∧ (b ≤ a → difO a b 192 = a - b) := by
  unfold U192 at *
  unfold bor difO
  rw [show (2 : Int) ^ 192 = 6277101735386680763835789423207666416102355444464034512896 from rfl]
  omega
theorem bor_0 (a b : Int) : bor a b 0 = 0 ∧ difO a b 0 = 0 := by
  unfold bor difO
  rw [Int.pow_zero]; omega
/-- The answers. -/
def addOk (a b : Int) : Bool := decide (a + b < 6277101735386680763835789423207666416102355444464034512896)
def addV (a b : Int) : Int := if addOk a b = true then a + b else 0
def subOk (a b : Int) : Bool := decide (b ≤ a)
def subV (a b : Int) : Int := if subOk a b = true then a - b else 0
theorem addV_u {a b : Int} (ha : U192 a) (hb : U192 b) : U192 (addV a b) := by
  unfold addV addOk; unfold U192 at *; split <;> simp_all <;> omega
theorem subV_u {a b : Int} (ha : U192 a) (hb : U192 b) : U192 (subV a b) := by
  unfold subV subOk; unfold U192 at *; split <;> simp_all <;> omega

/-! ### a word at a time -/
theorem add_words {a b : Int} (ha : U192 a) (hb : U192 b) (c0 c1 c2 : Int) (h0 : c0 = (w0 a + w0 b) / 18446744073709551616) (h1 : c1 = (w1 a + w1 b + c0) / 18446744073709551616) (h2 : c2 = (w2 a + w2 b + c1) / 18446744073709551616) :
    (0 ≤ c0 ∧ c0 ≤ 1) ∧ (0 ≤ c1 ∧ c1 ≤ 1) ∧ (0 ≤ c2 ∧ c2 ≤ 1) ∧ (addOk a b = true → c2 = 0 ∧ (w0 a + w0 b) % 18446744073709551616 = w0 (addV a b) ∧ (w1 a + w1 b + c0) % 18446744073709551616 = w1 (addV a b) ∧ (w2 a + w2 b + c1) % 18446744073709551616 = w2 (addV a b)) ∧ (addOk a b = false → c2 = 1 ∧ addV a b = 0) := by
  have ea := of3_w ha
  have eb := of3_w hb
  have a0 := w0_64 a; have a1 := w1_64 a; have a2 := w2_64 a
  have b0 := w0_64 b; have b1 := w1_64 b; have b2 := w2_64 b
  generalize w0 a = x0 at *; generalize w1 a = x1 at *; generalize w2 a = x2 at *
  generalize w0 b = y0 at *; generalize w1 b = y1 at *; generalize w2 b = y2 at *
  subst ea eb
  unfold W64 at *
  unfold addV addOk
  refine ⟨by omega, by omega, by omega, fun h => ?_, fun h => ?_⟩
  · rw [if_pos h]
    simp only [decide_eq_true_eq] at h
    unfold of3 at *
    unfold w0 w1 w2
    omega
  · rw [if_neg (by simp [h])]
    simp only [decide_eq_false_iff_not] at h
    unfold of3 at *
    omega
theorem sub_words {a b : Int} (ha : U192 a) (hb : U192 b) (c0 c1 c2 : Int) (h0 : c0 = if w0 a < w0 b then 1 else 0) (h1 : c1 = if w1 a < w1 b + c0 then 1 else 0) (h2 : c2 = if w2 a < w2 b + c1 then 1 else 0) :
    (0 ≤ c0 ∧ c0 ≤ 1) ∧ (0 ≤ c1 ∧ c1 ≤ 1) ∧ (0 ≤ c2 ∧ c2 ≤ 1) ∧ (subOk a b = true → c2 = 0 ∧ (w0 a - w0 b) % 18446744073709551616 = w0 (subV a b) ∧ (w1 a - w1 b - c0) % 18446744073709551616 = w1 (subV a b) ∧ (w2 a - w2 b - c1) % 18446744073709551616 = w2 (subV a b)) ∧ (subOk a b = false → c2 = 1 ∧ subV a b = 0) := by
  have ea := of3_w ha
  have eb := of3_w hb
  have a0 := w0_64 a; have a1 := w1_64 a; have a2 := w2_64 a
  have b0 := w0_64 b; have b1 := w1_64 b; have b2 := w2_64 b
  generalize w0 a = x0 at *; generalize w1 a = x1 at *; generalize w2 a = x2 at *
  generalize w0 b = y0 at *; generalize w1 b = y1 at *; generalize w2 b = y2 at *
  subst ea eb
  unfold W64 at *
  unfold subV subOk
  refine ⟨by split at h0 <;> omega, by split at h1 <;> omega, by split at h2 <;> omega, fun h => ?_, fun h => ?_⟩
  · rw [if_pos h]
    simp only [decide_eq_true_eq] at h
    unfold of3 at *
    unfold w0 w1 w2
    split at h0 <;> split at h1 <;> split at h2 <;> omega
  · rw [if_neg (by simp [h])]
    simp only [decide_eq_false_iff_not] at h
    unfold of3 at *
    split at h0 <;> split at h1 <;> split at h2 <;> omega

/-! ### how two numbers stand -/
def cmpV (a b : Int) : Int := if a < b then -1 else if a = b then 0 else 1
theorem cmp_words {a b : Int} (ha : U192 a) (hb : U192 b) : cmpV a b = if cmpV (w2 a) (w2 b) ≠ 0 then cmpV (w2 a) (w2 b) else if cmpV (w1 a) (w1 b) ≠ 0 then cmpV (w1 a) (w1 b) else cmpV (w0 a) (w0 b) := by
  have ea := of3_w ha
  have eb := of3_w hb
  have a0 := w0_64 a; have a1 := w1_64 a; have a2 := w2_64 a
  have b0 := w0_64 b; have b1 := w1_64 b; have b2 := w2_64 b
  generalize w0 a = x0 at *; generalize w1 a = x1 at *; generalize w2 a = x2 at *
  generalize w0 b = y0 at *; generalize w1 b = y1 at *; generalize w2 b = y2 at *
  subst ea eb
  unfold W64 at *
  unfold of3 cmpV
  rcases Int.lt_trichotomy x2 y2 with h2 | h2 | h2
  · rw [if_pos (by omega), if_pos h2]; simp
  · rw [if_neg (show ¬ x2 < y2 by omega), if_pos h2]
    simp only [ne_eq, not_true, if_false]
    rcases Int.lt_trichotomy x1 y1 with h1 | h1 | h1
    · rw [if_pos (by omega), if_pos h1]; simp
    · rw [if_neg (show ¬ x1 < y1 by omega), if_pos h1]
      simp only [ne_eq, not_true, if_false]
      rcases Int.lt_trichotomy x0 y0 with h0 | h0 | h0
      · rw [if_pos (by omega), if_pos h0]
      · rw [if_neg (by omega), if_pos (by omega), if_neg (by omega), if_pos h0]
      · rw [if_neg (by omega), if_neg (by omega), if_neg (by omega), if_neg (by omega)]
    · rw [if_neg (by omega), if_neg (by omega), if_neg (show ¬ x1 < y1 by omega), if_neg (show ¬ x1 = y1 by omega)]; simp
  · rw [if_neg (by omega), if_neg (by omega), if_neg (show ¬ x2 < y2 by omega), if_neg (show ¬ x2 = y2 by omega)]; simp
theorem cmp_lt {a b : Int} {i : Nat} (h : a / 2 ^ (i + 1) = b / 2 ^ (i + 1)) (hb : bt a i < bt b i) : a < b := by
  have h1 := div_succ a i
  have h2 := div_succ b i
  rw [h] at h1
  have hl : a / 2 ^ i < b / 2 ^ i := by omega
  rcases Int.lt_or_le a b with hc | hc
  · exact hc
  · have := Int.ediv_le_ediv (p2 i) hc; omega
theorem cmp_eq {a b : Int} {i : Nat} (h : a / 2 ^ (i + 1) = b / 2 ^ (i + 1)) (hb : bt a i = bt b i) : a / 2 ^ i = b / 2 ^ i := by
  rw [div_succ a i, div_succ b i, h, hb]

/-! ### how many bits -/
def width (n : Int) : Int := if n ≤ 0 then 0 else ((n.toNat.log2 : Nat) : Int) + 1
theorem width_at {n : Int} {i : Nat} (h : n / 2 ^ i = 1) : width n = (i : Int) + 1 := by
  have hp := p2 i
  have e := parts n (2 ^ i)
  have r0 := Int.emod_nonneg n (Int.ne_of_gt hp)
  have r1 := Int.emod_lt_of_pos n hp
  rw [h] at e
  unfold width
  rw [if_neg (by omega)]
  have : n.toNat.log2 = i := by
    refine (Nat.log2_eq_iff (by omega)).2 ⟨?_, ?_⟩
    · have : ((2 ^ i : Nat) : Int) ≤ (n.toNat : Int) := by rw [Int.toNat_of_nonneg (by omega)]; push_cast; omega
      exact_mod_cast this
    · have : (n.toNat : Int) < ((2 ^ (i + 1) : Nat) : Int) := by rw [Int.toNat_of_nonneg (by omega)]; push_cast; rw [p2s]; omega
      exact_mod_cast this
  rw [this]
theorem width_0 : width 0 = 0 := rfl
theorem width_pos {n : Int} (h : 0 < n) : 2 ^ (width n - 1).toNat ≤ n ∧ n < 2 ^ (width n).toNat ∧ 1 ≤ width n := by
  unfold width
  rw [if_neg (by omega)]
  have h1 := Nat.log2_self_le (n := n.toNat) (by omega)
  have h2 := Nat.lt_log2_self (n := n.toNat)
  refine ⟨?_, ?_, by omega⟩
  · rw [show ((n.toNat.log2 : Nat) : Int) + 1 - 1 = (n.toNat.log2 : Nat) by omega, Int.toNat_natCast]
    have : ((2 ^ n.toNat.log2 : Nat) : Int) ≤ (n.toNat : Int) := by exact_mod_cast h1
    rw [Int.toNat_of_nonneg (by omega)] at this
    push_cast at this
    exact this
  · rw [show (((n.toNat.log2 : Nat) : Int) + 1).toNat = n.toNat.log2 + 1 by omega]
    have : (n.toNat : Int) < ((2 ^ (n.toNat.log2 + 1) : Nat) : Int) := by exact_mod_cast h2
    rw [Int.toNat_of_nonneg (by omega)] at this
    push_cast at this
    exact this
theorem width_eq {n : Int} {k : Nat} (hl : 2 ^ k ≤ n) (hh : n < 2 ^ (k + 1)) : width n = (k : Int) + 1 :=
  width_at (div_of (q := 1) (r := n - 2 ^ k) (by omega) (by omega) (by rw [p2s] at hh; omega))
theorem p2_mono {a b : Nat} (h : a ≤ b) : (2 : Int) ^ a ≤ 2 ^ b := by
  have : (2 : Nat) ^ a ≤ 2 ^ b := Nat.pow_le_pow_right (by decide) h
  exact_mod_cast this
/-- The bits of a product. -/
theorem width_mul {a b : Int} (ha : 0 < a) (hb : 0 < b) : width a + width b - width (a * b) = 0 ∨ width a + width b - width (a * b) = 1 := by
  obtain ⟨a1, a2, a3⟩ := width_pos ha
  obtain ⟨b1, b2, b3⟩ := width_pos hb
  obtain ⟨k, hk⟩ : ∃ k : Nat, width a = (k : Int) + 1 := ⟨(width a - 1).toNat, by omega⟩
  obtain ⟨l, hl⟩ : ∃ l : Nat, width b = (l : Int) + 1 := ⟨(width b - 1).toNat, by omega⟩
  rw [hk] at a1 a2 ⊢
  rw [hl] at b1 b2 ⊢
  rw [show ((k : Int) + 1 - 1).toNat = k by omega] at a1
  rw [show ((l : Int) + 1 - 1).toNat = l by omega] at b1
  rw [show ((k : Int) + 1).toNat = k + 1 by omega] at a2
  rw [show ((l : Int) + 1).toNat = l + 1 by omega] at b2
  have lo : (2 : Int) ^ (k + l) ≤ a * b := by
    rw [Int.pow_add]
    exact Int.mul_le_mul a1 b1 (Int.le_of_lt (p2 l)) (by omega)
  have hi : a * b < 2 ^ (k + l + 2) := by
    rw [show k + l + 2 = (k + 1) + (l + 1) by omega, Int.pow_add]
    exact Int.mul_lt_mul a2 (Int.le_of_lt b2) hb (Int.le_of_lt (p2 (k + 1)))
  rcases Int.lt_or_le (a * b) (2 ^ (k + l + 1)) with h | h
  · rw [width_eq lo h]; right; omega
  · rw [width_eq h (by rw [show k + l + 1 + 1 = k + l + 2 by omega]; exact hi)]; left; omega
/-- A word at a time. -/
theorem width_words {n : Int} (h : U192 n) : width n = if 0 < w2 n then 128 + width (w2 n) else if 0 < w1 n then 64 + width (w1 n) else width (w0 n) := by
  have e := of3_w h
  have a := w0_64 n; have b := w1_64 n; have c := w2_64 n
  generalize w0 n = x at *; generalize w1 n = y at *; generalize w2 n = z at *
  subst e
  unfold W64 at *
  unfold of3
  split
  · rename_i hz
    obtain ⟨a1, a2, a3⟩ := width_pos hz
    obtain ⟨k, hk⟩ : ∃ k : Nat, width z = (k : Int) + 1 := ⟨(width z - 1).toNat, by omega⟩
    rw [hk] at a1 a2 ⊢
    rw [show ((k : Int) + 1 - 1).toNat = k by omega] at a1
    rw [show ((k : Int) + 1).toNat = k + 1 by omega] at a2
    have e1 : (2 : Int) ^ (128 + k) = 340282366920938463463374607431768211456 * 2 ^ k := by rw [Int.pow_add]; rfl
    have e2 : (2 : Int) ^ (128 + k + 1) = 340282366920938463463374607431768211456 * 2 ^ (k + 1) := by rw [Nat.add_assoc, Int.pow_add]; rfl
    rw [width_eq (k := 128 + k) (by rw [e1]; omega) (by rw [e2]; omega)]
    omega
  · split
    · rename_i hz hy
      obtain ⟨a1, a2, a3⟩ := width_pos hy
      obtain ⟨k, hk⟩ : ∃ k : Nat, width y = (k : Int) + 1 := ⟨(width y - 1).toNat, by omega⟩
      rw [hk] at a1 a2 ⊢
      rw [show ((k : Int) + 1 - 1).toNat = k by omega] at a1
      rw [show ((k : Int) + 1).toNat = k + 1 by omega] at a2
      have e1 : (2 : Int) ^ (64 + k) = 18446744073709551616 * 2 ^ k := by rw [Int.pow_add]; rfl
      have e2 : (2 : Int) ^ (64 + k + 1) = 18446744073709551616 * 2 ^ (k + 1) := by rw [Nat.add_assoc, Int.pow_add]; rfl
      rw [width_eq (k := 64 + k) (by rw [e1]; omega) (by rw [e2]; omega)]
      omega
    · rw [show x + 18446744073709551616 * y + 340282366920938463463374607431768211456 * z = x by omega]
end Go.Proofs.YtfknhpgelleenaaDoor.MWide
namespace Go.Proofs.YtfknhpgelleenaaDoor.MText
open Go Go.Proofs.YtfknhpgelleenaaDoor.MWide
set_option linter.unusedVariables false
set_option linter.unusedSimpArgs false

theorem snoc_ind {α : Type} {motive : List α → Prop} (nil : motive []) (snoc : ∀ l c, motive l → motive (l ++ [c])) (l : List α) : motive l := by
  rw [← List.reverse_reverse l]
  induction l.reverse with
  | nil => exact nil
  | cons x l ih => rw [List.reverse_cons]; exact snoc _ _ ih
/-- So many digits, the lowest last. -/
def padD : Int → Nat → List Int
  | _, 0 => []
  | n, k + 1 => padD (n / 10) k ++ [48 + n % 10]
def strip (l : List Int) : List Int := l.dropWhile (· == 48)
/-- A number's digits. -/
def dec (n : Int) : List Int := if n ≤ 0 then [48] else strip (padD n 58)
theorem padD_length (n : Int) (k : Nat) : (padD n k).length = k := by
  induction k generalizing n with
  | zero => rfl
  | succ k ih => simp [padD, ih]
theorem padD_add (n : Int) (k j : Nat) : padD n (k + j) = padD (n / 10 ^ j) k ++ padD n j := by
  induction j generalizing n with
  | zero => simp [padD]
  | succ j ih =>
    rw [show k + (j + 1) = (k + j) + 1 by omega, padD, ih, padD, List.append_assoc]
    congr 2
    rw [Int.ediv_ediv_of_nonneg (by decide), Int.pow_succ, Int.mul_comm]
theorem div10_mod (n : Int) (k : Nat) : n % 10 ^ (k + 1) / 10 = n / 10 % 10 ^ k ∧ n % 10 ^ (k + 1) % 10 = n % 10 := by
  have hp : (0 : Int) < 10 ^ k := Int.pow_pos (by decide)
  have e : (10 : Int) ^ (k + 1) = 10 * 10 ^ k := by rw [Int.pow_succ, Int.mul_comm]
  rw [e]
  have h1 := parts n 10
  have h2 := parts (n / 10) (10 ^ k)
  have r0 := Int.emod_nonneg (n / 10) (Int.ne_of_gt hp)
  have r1 := Int.emod_lt_of_pos (n / 10) hp
  generalize n / 10 / 10 ^ k = d at *
  generalize n / 10 % 10 ^ k = r at *
  have h3 : n % (10 * 10 ^ k) = 10 * r + n % 10 := by
    refine mod_of (q := d) ?_ (by omega) (by omega)
    rw [Int.mul_assoc]
    omega
  rw [h3]
  omega
theorem padD_mod (n : Int) (k : Nat) : padD (n % 10 ^ k) k = padD n k := by
  induction k generalizing n with
  | zero => rfl
  | succ k ih =>
    obtain ⟨h1, h2⟩ := div10_mod n k
    rw [padD, padD, h1, h2, ih]
theorem strip_zeros (j : Nat) (l : List Int) : strip (padD 0 j ++ l) = strip l := by
  induction j generalizing l with
  | zero => rfl
  | succ j ih =>
    rw [padD, List.append_assoc, show (0 : Int) / 10 = 0 from rfl, ih]
    rfl
theorem strip_pad0 (j : Nat) : strip (padD 0 j) = [] := by
  have := strip_zeros j []
  rwa [List.append_nil] at this
theorem p10 (k : Nat) : (0 : Int) < 10 ^ k := Int.pow_pos (by decide)
theorem p10s (k : Nat) : (10 : Int) ^ (k + 1) = 10 * 10 ^ k := by rw [Int.pow_succ, Int.mul_comm]
theorem strip_more {n : Int} {k m : Nat} (h0 : 0 ≤ n) (h : n < 10 ^ k) (hk : k ≤ m) : strip (padD n m) = strip (padD n k) := by
  obtain ⟨j, rfl⟩ : ∃ j, m = j + k := ⟨m - k, by omega⟩
  rw [padD_add, Int.ediv_eq_zero_of_lt h0 h, strip_zeros]
theorem strip_two {n : Int} {k m : Nat} (h0 : 0 ≤ n) (h : n < 10 ^ k) (h' : n < 10 ^ m) : strip (padD n m) = strip (padD n k) := by
  rcases Nat.le_total k m with hk | hk
  · exact strip_more h0 h hk
  · exact (strip_more h0 h' hk).symm
theorem strip_dec {n : Int} {k : Nat} (h0 : 0 < n) (h : n < 10 ^ k) (hn : n < 10 ^ 58) : strip (padD n k) = dec n := by
  unfold dec
  rw [if_neg (by omega)]
  exact strip_two (by omega) hn h
theorem strip_ne {l : List Int} (h : strip l ≠ []) (c : Int) : strip (l ++ [c]) = strip l ++ [c] := by
  unfold strip at *
  induction l with
  | nil => exact absurd rfl h
  | cons x l ih =>
    rw [List.cons_append, List.dropWhile_cons, List.dropWhile_cons]
    rw [List.dropWhile_cons] at h
    split
    · rw [if_pos (by assumption)] at h
      exact ih h
    · rfl
theorem strip_nil {l : List Int} (h : strip l = []) (c : Int) (hc : c ≠ 48) : strip (l ++ [c]) = [c] := by
  unfold strip at *
  induction l with
  | nil => rw [List.nil_append, List.dropWhile_cons, if_neg (by simpa using hc)]
  | cons x l ih =>
    rw [List.cons_append, List.dropWhile_cons]
    rw [List.dropWhile_cons] at h
    split
    · rw [if_pos (by assumption)] at h
      exact ih h
    · rw [if_neg (by assumption)] at h
      cases h
theorem strip_pad_ne {n : Int} {k : Nat} (h0 : 0 < n) (h : n < 10 ^ k) : strip (padD n k) ≠ [] := by
  induction k generalizing n with
  | zero => rw [Int.pow_zero] at h; omega
  | succ k ih =>
    rw [padD]
    rw [p10s] at h
    by_cases hz : n / 10 = 0
    · rw [hz, strip_nil (strip_pad0 k) _ (by omega)]; simp
    · rw [strip_ne (ih (by omega) (by omega))]; simp
/-- The digits, one by one. -/
theorem dec_rec {n : Int} (h0 : 0 ≤ n) (h : n < 10 ^ 58) : dec n = if n / 10 = 0 then [48 + n % 10] else dec (n / 10) ++ [48 + n % 10] := by
  by_cases hz : n / 10 = 0
  · rw [if_pos hz]
    by_cases h00 : n = 0
    · subst h00; rfl
    · unfold dec
      rw [if_neg (by omega), show (58 : Nat) = 57 + 1 from rfl, padD, hz, strip_nil (strip_pad0 _) _ (by omega)]
  · rw [if_neg hz]
    have hp : (10 : Int) ^ 58 = 10 * 10 ^ 57 := p10s 57
    have h57 : n / 10 < 10 ^ 57 := by rw [hp] at h; generalize (10 : Int) ^ 57 = q at *; omega
    have h58 : n / 10 < 10 ^ 58 := Int.lt_of_le_of_lt (Int.ediv_le_self _ h0) h
    rw [← strip_dec (n := n / 10) (k := 57) (by omega) h57 h58]
    unfold dec
    rw [if_neg (by omega), show (58 : Nat) = 57 + 1 from rfl, padD, strip_ne (strip_pad_ne (by omega) h57)]

/-! ### the number of digits -/
def numOf (l : List Int) : Int := l.foldl (fun v c => 10 * v + (c - 48)) 0
def isDig (c : Int) : Bool := decide (48 ≤ c ∧ c ≤ 57)
def digs (l : List Int) : Prop := ∀ c ∈ l, 48 ≤ c ∧ c ≤ 57
theorem numOf_snoc (l : List Int) (c : Int) : numOf (l ++ [c]) = 10 * numOf l + (c - 48) := by simp [numOf]
theorem digs_snoc {l : List Int} {c : Int} (h : digs (l ++ [c])) : digs l ∧ 48 ≤ c ∧ c ≤ 57 := ⟨fun x hx => h x (by simp [hx]), h c (by simp)⟩
theorem numOf_nonneg {l : List Int} (h : digs l) : 0 ≤ numOf l := by
  induction l using snoc_ind with
  | nil => exact Int.le_refl _
  | snoc l c ih => rw [numOf_snoc]; have := digs_snoc h; have := ih this.1; omega
theorem numOf_lt {l : List Int} (h : digs l) : numOf l < 10 ^ l.length := by
  induction l using snoc_ind with
  | nil => decide
  | snoc l c ih =>
    rw [numOf_snoc, List.length_append, List.length_singleton, p10s]
    have := digs_snoc h; have := ih this.1; omega
theorem numOf_app {l m : List Int} (h : digs (l ++ m)) : numOf l ≤ numOf (l ++ m) := by
  induction m using snoc_ind with
  | nil => simp
  | snoc m c ih =>
    rw [← List.append_assoc] at h ⊢
    rw [numOf_snoc]
    have h1 := digs_snoc h
    have := ih h1.1
    have h2 : digs l := fun x hx => h1.1 x (by simp [hx])
    have := numOf_nonneg h2
    omega
theorem numOf_cons {l : List Int} {c : Int} (h : digs (c :: l)) (hc : c ≠ 48) : 10 ^ l.length ≤ numOf (c :: l) := by
  induction l using snoc_ind with
  | nil => have := h c (by simp); simp [numOf]; omega
  | snoc l d ih =>
    rw [show c :: (l ++ [d]) = (c :: l) ++ [d] from rfl] at h ⊢
    rw [numOf_snoc, List.length_append, List.length_singleton, p10s]
    have := digs_snoc h
    have := ih this.1
    omega
theorem dec_digs {n : Int} (h0 : 0 ≤ n) (h : n < 10 ^ 58) : digs (dec n) := by
  generalize hk : n.toNat = k
  induction k using Nat.strongRecOn generalizing n with
  | _ k ih =>
    rw [dec_rec h0 h]
    split
    · intro c hc; simp at hc; omega
    · have := ih (n / 10).toNat (by omega) (n := n / 10) (by omega) (Int.lt_of_le_of_lt (Int.ediv_le_self _ h0) h) rfl
      intro c hc
      rcases List.mem_append.1 hc with hc | hc
      · exact this c hc
      · simp at hc; omega
theorem numOf_dec {n : Int} (h0 : 0 ≤ n) (h : n < 10 ^ 58) : numOf (dec n) = n := by
  generalize hk : n.toNat = k
  induction k using Nat.strongRecOn generalizing n with
  | _ k ih =>
    rw [dec_rec h0 h]
    split
    · simp [numOf]; omega
    · have := ih (n / 10).toNat (by omega) (n := n / 10) (by omega) (Int.lt_of_le_of_lt (Int.ediv_le_self _ h0) h) rfl
      rw [numOf_snoc, this]; omega
theorem dec_ne {n : Int} (h0 : 0 ≤ n) (h : n < 10 ^ 58) : dec n ≠ [] := by
  rw [dec_rec h0 h]; split <;> simp
theorem dec_length {n : Int} (h0 : 0 ≤ n) (h : n < 10 ^ 58) : (dec n).length ≤ 58 := by
  unfold dec
  split
  · simp
  · unfold strip
    have := (List.dropWhile_sublist (fun x : Int => x == 48) (l := padD n 58)).length_le
    rw [padD_length] at this
    exact this
/-- Digits that begin with no 0, or are one. -/
def canon (l : List Int) : Prop := l ≠ [] ∧ digs l ∧ (l.length = 1 ∨ l.head? ≠ some 48)
theorem dec_canon {n : Int} (h0 : 0 ≤ n) (h : n < 10 ^ 58) : canon (dec n) := by
  refine ⟨dec_ne h0 h, dec_digs h0 h, ?_⟩
  unfold dec
  split
  · exact .inl rfl
  · right
    unfold strip
    generalize padD n 58 = l
    induction l with
    | nil => simp
    | cons x l ih =>
      rw [List.dropWhile_cons]
      split
      · exact ih
      · rename_i hx; simpa using hx
theorem dec_numOf {l : List Int} (h : canon l) (hl : numOf l < 10 ^ 58) : dec (numOf l) = l := by
  induction l using snoc_ind with
  | nil => exact absurd rfl h.1
  | snoc m c ih =>
    obtain ⟨_, hd, hh⟩ := h
    have hd2 := digs_snoc hd
    have hn := numOf_nonneg hd
    have hm := numOf_nonneg hd2.1
    rw [dec_rec hn hl, numOf_snoc]
    have e1 : (10 * numOf m + (c - 48)) / 10 = numOf m := by omega
    have e2 : 48 + (10 * numOf m + (c - 48)) % 10 = c := by omega
    rw [e1, e2]
    by_cases hz : m = []
    · subst hz; simp [numOf]
    · obtain ⟨x, m', rfl⟩ : ∃ x m', m = x :: m' := by cases m with | nil => exact absurd rfl hz | cons x m' => exact ⟨x, m', rfl⟩
      have hx : x ≠ 48 := by
        rcases hh with hh | hh
        · simp at hh
        · simpa using hh
      have := numOf_cons hd2.1 hx
      have := p10 m'.length
      rw [if_neg (by omega), ih ⟨by simp, hd2.1, .inr (by simpa using hx)⟩ (by rw [numOf_snoc] at hl; omega)]
/-- Is a text a number's? -/
def parseOk (l : List Int) : Bool := decide (l ≠ [] ∧ l.length ≤ 58 ∧ (∀ c ∈ l, 48 ≤ c ∧ c ≤ 57) ∧ numOf l < 6277101735386680763835789423207666416102355444464034512896 ∧ dec (numOf l) = l)
def parseV (l : List Int) : Int := if parseOk l = true then numOf l else 0
theorem top58 : (6277101735386680763835789423207666416102355444464034512896 : Int) < 10 ^ 58 := by decide
theorem parse_iff (l : List Int) : parseOk l = true ↔ canon l ∧ l.length ≤ 60 ∧ numOf l < 6277101735386680763835789423207666416102355444464034512896 := by
  unfold parseOk
  rw [decide_eq_true_eq]
  constructor
  · rintro ⟨h1, h2, h3, h4, h5⟩
    refine ⟨?_, by omega, h4⟩
    rw [← h5]
    exact dec_canon (numOf_nonneg h3) (Int.lt_trans h4 top58)
  · rintro ⟨hc, h2, h3⟩
    have h58 := Int.lt_trans h3 top58
    have hd := dec_numOf hc h58
    refine ⟨hc.1, ?_, hc.2.1, h3, hd⟩
    rw [← hd]
    exact dec_length (numOf_nonneg hc.2.1) h58
theorem parse_dec {n : Int} (h : U192 n) : parseOk (dec n) = true ∧ parseV (dec n) = n := by
  have h58 := Int.lt_trans h.2 top58
  have e := numOf_dec h.1 h58
  have : parseOk (dec n) = true := (parse_iff _).2 ⟨dec_canon h.1 h58, by have := dec_length h.1 h58; omega, by rw [e]; exact h.2⟩
  exact ⟨this, by unfold parseV; rw [if_pos this, e]⟩
theorem parseV_u (l : List Int) : U192 (parseV l) := by
  unfold parseV
  split
  · rename_i h
    obtain ⟨h1, h2, h3⟩ := (parse_iff l).1 h
    exact ⟨numOf_nonneg h1.2.1, h3⟩
  · exact ⟨by omega, by omega⟩
end Go.Proofs.YtfknhpgelleenaaDoor.MText
namespace Go.Proofs.YtfknhpgelleenaaDoor.MDiv
open Go Go.Proofs.YtfknhpgelleenaaDoor.MWide Go.Proofs.YtfknhpgelleenaaDoor.MText
set_option linter.unusedVariables false
set_option linter.unusedSimpArgs false
/-- So far is half a quotient known: not too little, and what is left with it. -/
def Guess (n q r : Int) : Prop := 0 ≤ r ∧ r < 4294967296 ∧ n / 4294967296 = q * 2328306436 + r ∧ n / 10000000000000000000 ≤ q ∧ q ≤ 4294967296
theorem guess_0 {hi u : Int} (h0 : 0 ≤ hi) (h1 : hi < 10000000000000000000) (u0 : 0 ≤ u) (u1 : u < 4294967296) : Guess (hi * 4294967296 + u) (hi / 2328306436) (hi - hi / 2328306436 * 2328306436) := by
  unfold Guess; omega
/-- The test says no: it is the quotient. -/
theorem guess_done {n q r : Int} (h : Guess n q r) (hq : q < 4294967296) (ht : q * 2313682944 ≤ 4294967296 * r + n % 4294967296) : q = n / 10000000000000000000 := by
  unfold Guess at h; omega
/-- The test says yes: it is one too many. -/
theorem guess_more {n q r : Int} (h : Guess n q r) (hn : n < 42949672960000000000000000000) (ht : 4294967296 ≤ q ∨ 4294967296 * r + n % 4294967296 < q * 2313682944) : n / 10000000000000000000 ≤ q - 1 := by
  unfold Guess at h; omega
theorem guess_next {n q r : Int} (h : Guess n q r) (hn : n < 42949672960000000000000000000) (ht : 4294967296 ≤ q ∨ 4294967296 * r + n % 4294967296 < q * 2313682944) (hr : r + 2328306436 < 4294967296) : Guess n (q - 1) (r + 2328306436) := by
  have := guess_more h hn ht
  unfold Guess at *; omega
theorem guess_break {n q r : Int} (h : Guess n q r) (hn : n < 42949672960000000000000000000) (ht : 4294967296 ≤ q ∨ 4294967296 * r + n % 4294967296 < q * 2313682944) (hr : 4294967296 ≤ r + 2328306436) : q - 1 = n / 10000000000000000000 := by
  have := guess_more h hn ht
  unfold Guess at *; omega
theorem guess_b {n q r : Int} (h : Guess n q r) (hn0 : 0 ≤ n) : 0 ≤ q ∧ q ≤ 4294967296 ∧ 0 ≤ r ∧ r < 4294967296 := by unfold Guess at h; omega
/-- What is left behind half a quotient. -/
theorem half_rest (n : Int) (h0 : 0 ≤ n) (h : n < 42949672960000000000000000000) : ((n / 4294967296 * 4294967296 % 18446744073709551616 + n % 4294967296) % 18446744073709551616 - n / 10000000000000000000 * 10000000000000000000 % 18446744073709551616) % 18446744073709551616 = n % 10000000000000000000 := by omega
/-- Both halves together. -/
theorem both {hi lo n m : Int} (h0 : 0 ≤ hi) (h1 : hi < 10000000000000000000) (l0 : 0 ≤ lo) (l1 : lo < 18446744073709551616)
    (hn : n = hi * 4294967296 + lo / 4294967296) (hm : m = n % 10000000000000000000 * 4294967296 + lo % 4294967296) :
    n / 10000000000000000000 * 4294967296 + m / 10000000000000000000 = (hi * 18446744073709551616 + lo) / 10000000000000000000 ∧ m % 10000000000000000000 = (hi * 18446744073709551616 + lo) % 10000000000000000000 ∧
    0 ≤ n ∧ n < 42949672960000000000000000000 ∧ 0 ≤ m ∧ m < 42949672960000000000000000000 := by omega
/-- Three words, from the highest on. -/
theorem parted_words {n : Int} (h : U192 n) (r2 r1 q2 q1 q0 : Int) (e2 : q2 = w2 n / 10000000000000000000) (f2 : r2 = w2 n % 10000000000000000000) (e1 : q1 = (r2 * 18446744073709551616 + w1 n) / 10000000000000000000) (f1 : r1 = (r2 * 18446744073709551616 + w1 n) % 10000000000000000000)
    (e0 : q0 = (r1 * 18446744073709551616 + w0 n) / 10000000000000000000) :
    w0 (n / 10000000000000000000) = q0 ∧ w1 (n / 10000000000000000000) = q1 ∧ w2 (n / 10000000000000000000) = q2 ∧ (r1 * 18446744073709551616 + w0 n) % 10000000000000000000 = n % 10000000000000000000 := by
  have e := of3_w h
  have a := w0_64 n; have b := w1_64 n; have c := w2_64 n
  generalize w0 n = x at *; generalize w1 n = y at *; generalize w2 n = z at *
  unfold of3 at e
  unfold W64 at *
  have hq : n / 10000000000000000000 = of3 q0 q1 q2 := by unfold of3; omega
  rw [hq, w0_of3 ⟨by omega, by omega⟩ ⟨by omega, by omega⟩ ⟨by omega, by omega⟩, w1_of3 ⟨by omega, by omega⟩ ⟨by omega, by omega⟩ ⟨by omega, by omega⟩, w2_of3 ⟨by omega, by omega⟩ ⟨by omega, by omega⟩ ⟨by omega, by omega⟩]
  omega
theorem parted_u {n : Int} (h : U192 n) : U192 (n / 10000000000000000000) := by unfold U192 at *; omega
/-- Ten times a number and a digit, a word at a time; what is carried on from each word. -/
theorem more_words {n d : Int} (h : U192 n) (d0 : 0 ≤ d) (d1 : d ≤ 9) (c0 c1 c2 : Int)
    (h0 : c0 = w0 n * 10 / 18446744073709551616 + (w0 n * 10 % 18446744073709551616 + d) / 18446744073709551616)
    (h1 : c1 = w1 n * 10 / 18446744073709551616 + (w1 n * 10 % 18446744073709551616 + c0) / 18446744073709551616)
    (h2 : c2 = w2 n * 10 / 18446744073709551616 + (w2 n * 10 % 18446744073709551616 + c1) / 18446744073709551616) :
    (0 ≤ c0 ∧ c0 ≤ 9) ∧ (0 ≤ c1 ∧ c1 ≤ 9) ∧ (0 ≤ c2 ∧ c2 ≤ 9) ∧ (c2 = 0 ↔ 10 * n + d < 6277101735386680763835789423207666416102355444464034512896) ∧
    ((w0 n * 10 % 18446744073709551616 + d) % 18446744073709551616 = w0 (10 * n + d) ∧ (w1 n * 10 % 18446744073709551616 + c0) % 18446744073709551616 = w1 (10 * n + d) ∧ (w2 n * 10 % 18446744073709551616 + c1) % 18446744073709551616 = w2 (10 * n + d)) := by
  have e := of3_w h
  have a := w0_64 n; have b := w1_64 n; have c := w2_64 n
  generalize w0 n = x at *; generalize w1 n = y at *; generalize w2 n = z at *
  subst e
  unfold W64 at *
  have k0 : 0 ≤ c0 ∧ c0 ≤ 9 := by omega
  have k1 : 0 ≤ c1 ∧ c1 ≤ 9 := by omega
  have k2 : 0 ≤ c2 ∧ c2 ≤ 9 := by omega
  obtain ⟨m0, g0, v0⟩ : ∃ m, (x * 10 % 18446744073709551616 + d) % 18446744073709551616 = m ∧ W64 m := ⟨_, rfl, by unfold W64; omega⟩
  obtain ⟨m1, g1, v1⟩ : ∃ m, (y * 10 % 18446744073709551616 + c0) % 18446744073709551616 = m ∧ W64 m := ⟨_, rfl, by unfold W64; omega⟩
  obtain ⟨m2, g2, v2⟩ : ∃ m, (z * 10 % 18446744073709551616 + c1) % 18446744073709551616 = m ∧ W64 m := ⟨_, rfl, by unfold W64; omega⟩
  have i0 : 10 * x + d = 18446744073709551616 * c0 + m0 := by omega
  have i1 : 10 * y + c0 = 18446744073709551616 * c1 + m1 := by omega
  have i2 : 10 * z + c1 = 18446744073709551616 * c2 + m2 := by omega
  rw [g0, g1, g2]
  clear g0 g1 g2 h0 h1 h2
  have i : 10 * of3 x y z + d = of3 m0 m1 m2 + 6277101735386680763835789423207666416102355444464034512896 * c2 := by unfold of3; omega
  refine ⟨k0, k1, k2, ?_, ?_⟩
  · rw [i]; unfold of3; unfold W64 at *; omega
  · rw [i]; unfold of3 w0 w1 w2; unfold W64 at *
    have h1 : (m0 + 18446744073709551616 * m1 + 340282366920938463463374607431768211456 * m2 + 6277101735386680763835789423207666416102355444464034512896 * c2) / 18446744073709551616 = m1 + 18446744073709551616 * (m2 + 18446744073709551616 * c2) := by omega
    have h2 : (m0 + 18446744073709551616 * m1 + 340282366920938463463374607431768211456 * m2 + 6277101735386680763835789423207666416102355444464034512896 * c2) / 340282366920938463463374607431768211456 = m2 + 18446744073709551616 * c2 := by omega
    rw [h1, h2]
    omega
end Go.Proofs.YtfknhpgelleenaaDoor.MDiv
namespace Go.Proofs.YtfknhpgelleenaaDoor.MBox
open Go Go.Proofs.YtfknhpgelleenaaDoor.MWide
set_option linter.unusedVariables false
set_option linter.unusedSimpArgs false

structure Bx where
  no : Bool
  lx : Int
  ly : Int
  hx : Int
  hy : Int
theorem Bx.ext' {a b : Bx} (h0 : a.no = b.no) (h1 : a.lx = b.lx) (h2 : a.ly = b.ly) (h3 : a.hx = b.hx) (h4 : a.hy = b.hy) : a = b := by
  cases a; cases b; simp_all
def I64 (n : Int) : Prop := -9223372036854775808 ≤ n ∧ n ≤ 9223372036854775807
/-- Its numbers are a machine's. -/
def Bx.ok (b : Bx) : Prop := I64 b.lx ∧ I64 b.ly ∧ I64 b.hx ∧ I64 b.hy
def noneB : Bx := ⟨true, 0, 0, 0, 0⟩
def zeroB : Bx := ⟨false, 0, 0, 0, 0⟩
theorem noneB_ok : noneB.ok := by unfold Bx.ok noneB I64; simp
/-- Alike in all. -/
def same (a b : Bx) : Bool := a.no == b.no && (a.lx == b.lx && (a.ly == b.ly && (a.hx == b.hx && a.hy == b.hy)))
theorem same_iff (a b : Bx) : same a b = true ↔ a = b := by
  unfold same
  simp only [Bool.and_eq_true, beq_iff_eq]
  constructor
  · rintro ⟨h0, h1, h2, h3, h4⟩; exact Bx.ext' h0 h1 h2 h3 h4
  · rintro rfl; simp
theorem same_refl (a : Bx) : same a a = true := (same_iff a a).2 rfl
theorem same_symm (a b : Bx) : same a b = same b a := by
  rw [Bool.eq_iff_iff, same_iff, same_iff]; exact eq_comm
def has (b : Bx) : Bool := !b.no && (decide (b.lx ≤ b.hx) && decide (b.ly ≤ b.hy))
def good (b : Bx) : Bool := if b.no = true then same b noneB else decide (b.lx ≤ b.hx) && decide (b.ly ≤ b.hy)
theorem has_good (b : Bx) : (!b.no && good b) = has b := by
  unfold has good; cases b.no <;> simp
theorem has_good' (b : Bx) : (good b && !b.no) = has b := by rw [Bool.and_comm, has_good]
theorem has_iff (b : Bx) : has b = true ↔ b.no = false ∧ b.lx ≤ b.hx ∧ b.ly ≤ b.hy := by
  unfold has; simp
def mn (a b : Int) : Int := if a < b then a else b
def mx (a b : Int) : Int := if a < b then b else a
theorem mn_iff (a b : Int) : mn a b ≤ a ∧ mn a b ≤ b ∧ (mn a b = a ∨ mn a b = b) := by unfold mn; split <;> omega
theorem mx_iff (a b : Int) : a ≤ mx a b ∧ b ≤ mx a b ∧ (mx a b = a ∨ mx a b = b) := by unfold mx; split <;> omega
theorem mn_comm (a b : Int) : mn a b = mn b a := by have := mn_iff a b; have := mn_iff b a; omega
theorem mx_comm (a b : Int) : mx a b = mx b a := by have := mx_iff a b; have := mx_iff b a; omega
def both (a b : Bx) : Bx := ⟨false, mn a.lx b.lx, mn a.ly b.ly, mx a.hx b.hx, mx a.hy b.hy⟩
def union (a b : Bx) : Bx := if has a = true then if has b = true then both a b else a else if has b = true then b else noneB
theorem union_ok {a b : Bx} (ha : a.ok) (hb : b.ok) : (union a b).ok := by
  unfold union
  split
  · split
    · unfold both Bx.ok I64 at *
      have := mn_iff a.lx b.lx; have := mn_iff a.ly b.ly; have := mx_iff a.hx b.hx; have := mx_iff a.hy b.hy
      simp only; omega
    · exact ha
  · split
    · exact hb
    · exact noneB_ok
theorem has_both {a b : Bx} (ha : has a = true) (hb : has b = true) : has (both a b) = true := by
  rw [has_iff] at *
  unfold both
  have := mn_iff a.lx b.lx; have := mn_iff a.ly b.ly; have := mx_iff a.hx b.hx; have := mx_iff a.hy b.hy
  refine ⟨rfl, ?_, ?_⟩ <;> simp only <;> omega
theorem has_none : has noneB = false := rfl
theorem has_union (a b : Bx) : has (union a b) = (has a || has b) := by
  unfold union
  cases ha : has a <;> cases hb : has b <;> simp [ha, hb, has_none, has_both]
theorem union_comm (a b : Bx) : union a b = union b a := by
  unfold union
  cases ha : has a <;> cases hb : has b <;> simp
  unfold both
  exact Bx.ext' rfl (mn_comm _ _) (mn_comm _ _) (mx_comm _ _) (mx_comm _ _)
def meets (a b : Bx) : Bool := has a && (has b && (decide (a.lx ≤ b.hx) && (decide (b.lx ≤ a.hx) && (decide (a.ly ≤ b.hy) && decide (b.ly ≤ a.hy)))))
theorem meets_iff (a b : Bx) : meets a b = true ↔ has a = true ∧ has b = true ∧ a.lx ≤ b.hx ∧ b.lx ≤ a.hx ∧ a.ly ≤ b.hy ∧ b.ly ≤ a.hy := by unfold meets; simp
theorem meets_comm (a b : Bx) : meets a b = meets b a := by
  rw [Bool.eq_iff_iff, meets_iff, meets_iff]; constructor <;> (rintro ⟨h1, h2, h3, h4, h5, h6⟩; exact ⟨h2, h1, h4, h3, h6, h5⟩)
/-- The program's way: no side of what both have is empty. -/
theorem meets_sides (a b : Bx) (ha : has a = true) (hb : has b = true) : meets a b = (!decide (mn a.hx b.hx < mx a.lx b.lx) && !decide (mn a.hy b.hy < mx a.ly b.ly)) := by
  have h1 := (has_iff a).1 ha
  have h2 := (has_iff b).1 hb
  rw [Bool.eq_iff_iff, meets_iff]
  have := mn_iff a.hx b.hx; have := mn_iff a.hy b.hy; have := mx_iff a.lx b.lx; have := mx_iff a.ly b.ly
  simp only [Bool.and_eq_true, Bool.not_eq_true', decide_eq_false_iff_not, ha, hb, true_and]
  omega
def holds (a b : Bx) : Bool := !has b || (has a && (decide (a.lx ≤ b.lx) && (decide (b.hx ≤ a.hx) && (decide (a.ly ≤ b.ly) && decide (b.hy ≤ a.hy)))))
theorem holds_iff (a b : Bx) : holds a b = true ↔ has b = false ∨ (has a = true ∧ a.lx ≤ b.lx ∧ b.hx ≤ a.hx ∧ a.ly ≤ b.ly ∧ b.hy ≤ a.hy) := by unfold holds; simp
/-- The program's way: around both is what one is. -/
theorem holds_union (a b : Bx) : holds a b = (!has b || (has a && same (union a b) a)) := by
  rw [Bool.eq_iff_iff, holds_iff]
  simp only [Bool.or_eq_true, Bool.not_eq_true', Bool.and_eq_true, same_iff]
  cases hb : has b with
  | false => simp
  | true =>
    simp only [Bool.true_eq_false, false_or]
    constructor
    · rintro ⟨ha, h1, h2, h3, h4⟩
      refine ⟨ha, ?_⟩
      unfold union
      rw [if_pos ha, if_pos hb]
      have hh := (has_iff a).1 ha
      have := mn_iff a.lx b.lx; have := mn_iff a.ly b.ly; have := mx_iff a.hx b.hx; have := mx_iff a.hy b.hy
      unfold both
      refine Bx.ext' hh.1.symm ?_ ?_ ?_ ?_ <;> simp only <;> omega
    · rintro ⟨ha, h⟩
      refine ⟨ha, ?_⟩
      unfold union at h
      rw [if_pos ha, if_pos hb] at h
      have := mn_iff a.lx b.lx; have := mn_iff a.ly b.ly; have := mx_iff a.hx b.hx; have := mx_iff a.hy b.hy
      unfold both at h
      have e1 := congrArg Bx.lx h; have e2 := congrArg Bx.ly h; have e3 := congrArg Bx.hx h; have e4 := congrArg Bx.hy h
      simp only at e1 e2 e3 e4
      omega
theorem holds_l (a b : Bx) : holds (union a b) a = true := by
  rw [holds_iff]
  cases ha : has a with
  | false => exact .inl rfl
  | true =>
    refine .inr ⟨by rw [has_union, ha]; rfl, ?_⟩
    unfold union
    rw [if_pos ha]
    split
    · have := mn_iff a.lx b.lx; have := mn_iff a.ly b.ly; have := mx_iff a.hx b.hx; have := mx_iff a.hy b.hy
      unfold both; simp only; omega
    · omega
theorem holds_r (a b : Bx) : holds (union a b) b = true := by rw [union_comm]; exact holds_l b a
theorem meets_union {a c : Bx} (b : Bx) (h : meets a c = true) : meets (union a b) c = true := by
  rw [meets_iff] at *
  obtain ⟨ha, hc, h1, h2, h3, h4⟩ := h
  refine ⟨by rw [has_union, ha]; rfl, hc, ?_⟩
  unfold union
  rw [if_pos ha]
  split
  · have := mn_iff a.lx b.lx; have := mn_iff a.ly b.ly; have := mx_iff a.hx b.hx; have := mx_iff a.hy b.hy
    unfold both; simp only; omega
  · omega
def equal (a b : Bx) : Bool := if has a != has b then false else !has a || same a b
theorem equal_ref (a b : Bx) : ((!has a && !has b) || (has a && (has b && same a b))) = equal a b := by
  unfold equal; cases has a <;> cases has b <;> simp
theorem equal_refl (a : Bx) : equal a a = true := by unfold equal; simp [same_refl]
theorem holds_equal {a b : Bx} (h : holds a b = true) : equal (union a b) a = true := by
  rw [holds_union] at h
  cases hb : has b with
  | true =>
    rw [hb] at h
    simp only [Bool.not_true, Bool.false_or, Bool.and_eq_true, same_iff] at h
    rw [h.2]; exact equal_refl a
  | false =>
    cases ha : has a with
    | true => unfold union; rw [if_pos ha, if_neg (by simp [hb])]; exact equal_refl a
    | false => unfold equal; simp [has_union, ha, hb]

/-! ### areas -/
def side (l h : Int) : Int := h - l
def area (b : Bx) : Int := if has b = true then (b.hx - b.lx) * (b.hy - b.ly) else 0
theorem side_64 {b : Bx} (h : b.ok) (hb : has b = true) : W64 (b.hx - b.lx) ∧ W64 (b.hy - b.ly) := by
  have := (has_iff b).1 hb
  unfold Bx.ok I64 at h
  unfold W64; omega
theorem area_u {b : Bx} (h : b.ok) : 0 ≤ area b ∧ area b < 340282366920938463463374607431768211456 := by
  unfold area
  split
  · rename_i hb
    obtain ⟨h1, h2⟩ := side_64 h hb
    exact w_mul h1 h2
  · omega
theorem area_192 {b : Bx} (h : b.ok) : U192 (area b) := by have := area_u h; unfold U192; omega
theorem area_mono (a b : Bx) : area a ≤ area (union a b) := by
  cases ha : has a with
  | false =>
    rw [show area a = 0 by unfold area; rw [if_neg (by simp [ha])]]
    unfold area
    split
    · rename_i h
      have := (has_iff _).1 h
      exact Int.mul_nonneg (by omega) (by omega)
    · exact Int.le_refl _
  | true =>
    have h1 := (holds_iff _ _).1 (holds_l a b)
    rw [ha] at h1
    simp only [Bool.true_eq_false, false_or] at h1
    obtain ⟨h2, h3, h4, h5, h6⟩ := h1
    have h7 := (has_iff a).1 ha
    unfold area
    rw [if_pos ha, if_pos h2]
    exact Int.mul_le_mul (by omega) (by omega) (by omega) (by omega)
def growth (a b : Bx) : Int := area (union a b) - area a
theorem growth_u {a b : Bx} (ha : a.ok) (hb : b.ok) : U192 (growth a b) := by
  have h1 := area_mono a b
  have h2 := area_192 (union_ok ha hb)
  have h3 := area_192 ha
  unfold growth U192 at *; omega
theorem growth_sub {a b : Bx} : subV (area (union a b)) (area a) = growth a b := by
  unfold subV subOk growth
  rw [if_pos (by simpa using area_mono a b)]
/-- How much neither has, and whether that is below 0. -/
def wasteN (a b : Bx) : Bool := decide (area (union a b) < area a + area b)
def waste (a b : Bx) : Int := if wasteN a b = true then area a + area b - area (union a b) else area (union a b) - (area a + area b)
theorem waste_u {a b : Bx} (ha : a.ok) (hb : b.ok) : U192 (waste a b) := by
  have h2 := area_u (union_ok ha hb)
  have h3 := area_u ha
  have h4 := area_u hb
  unfold waste wasteN U192 at *
  split
  · rename_i h; simp only [decide_eq_true_eq] at h; omega
  · rename_i h; simp only [decide_eq_true_eq] at h; omega
theorem both_u {a b : Bx} (ha : a.ok) (hb : b.ok) : U192 (area a + area b) ∧ addV (area a) (area b) = area a + area b := by
  have h3 := area_u ha
  have h4 := area_u hb
  refine ⟨by unfold U192; omega, ?_⟩
  unfold addV addOk
  rw [if_pos (by simp only [decide_eq_true_eq]; omega)]
theorem growth_zero (a b : Bx) : (growth a b = 0) ↔ area (union a b) = area a := by unfold growth; omega
end Go.Proofs.YtfknhpgelleenaaDoor.MBox
namespace Go.Proofs.YtfknhpgelleenaaDoor.MOct
set_option linter.unusedVariables false
set_option linter.unusedSimpArgs false
theorem V_W (i : Nat) : ∀ n : Int, 0 ≤ n → n < 128 ^ i → V (W n i) = n := by
  induction i with
  | zero => intro n h0 h1; simp [W, V]; omega
  | succ i ih =>
    intro n h0 h1
    rw [W, V_snoc, ih (n / 128) (by omega) (by rw [Int.pow_succ] at h1; omega)]
    omega
theorem tk_skip (t : List Int) : ∀ m p : List Int, (∀ x ∈ m, 128 ≤ x ∧ x < 256) → p.length + m.length ≤ 8 → tk (V p) p.length (m ++ t) = tk (V (p ++ m)) ((p.length : Int) + m.length) t := by
  intro m
  induction m with
  | nil => intro p _ _; simp
  | cons c m ih =>
    intro p hm hl
    have hc := hm c (by simp)
    simp only [List.length_cons] at hl
    simp only [List.cons_append, tk]
    rw [if_neg (by omega), if_neg (by omega), ← V_snoc]
    have := ih (p ++ [c]) (fun x hx => hm x (by simp [hx])) (by simp; omega)
    simp only [List.length_append, List.length_cons, List.length_nil, List.append_assoc, List.cons_append, List.nil_append] at this
    rw [show ((p.length + (0 + 1) : Nat) : Int) = (p.length : Int) + 1 by omega] at this
    rw [this]
    simp only [List.length_cons]
    congr 1
    omega
theorem take_vr (n : Int) (rest : List Int) (h0 : 0 ≤ n) (h1 : n < 18446744073709551616) : take (vr n ++ rest) = (n, sz n) := by
  have hs := sz_range n
  unfold take vr
  by_cases h9 : sz n = 9
  · rw [if_pos h9, List.append_assoc]
    have := tk_skip ([n % 256] ++ rest) (W (n / 256) 8) [] (W_range 8 (n / 256)) (by rw [W_length]; simp)
    simp only [List.nil_append, List.length_nil, W_length] at this
    have e : tk 0 0 (W (n / 256) 8 ++ ([n % 256] ++ rest)) = tk (V []) ((0 : Nat) : Int) (W (n / 256) 8 ++ ([n % 256] ++ rest)) := rfl
    rw [e, this, V_W 8 (n / 256) (by omega) (by omega)]
    simp only [List.cons_append, List.nil_append, tk]
    rw [if_pos (by omega), show n / 256 * 256 + n % 256 = n by omega, if_pos h9, h9]
  · rw [if_neg h9, List.append_assoc]
    have hp := sz_pow n h9
    have := tk_skip ([n % 128] ++ rest) (W (n / 128) ((sz n).toNat - 1)) [] (W_range _ (n / 128)) (by rw [W_length]; simp; omega)
    simp only [List.nil_append, List.length_nil, W_length] at this
    have e : tk 0 0 (W (n / 128) ((sz n).toNat - 1) ++ ([n % 128] ++ rest)) = tk (V []) ((0 : Nat) : Int) (W (n / 128) ((sz n).toNat - 1) ++ ([n % 128] ++ rest)) := rfl
    rw [e, this, V_W _ (n / 128) (by omega) hp]
    simp only [List.cons_append, List.nil_append, tk]
    rw [if_neg (by omega), if_pos (by omega), show n / 128 * 128 + n % 128 % 128 = n by omega, if_pos (by omega)]
    congr 1
    omega
theorem num_from (l : List Int) : ∀ a : Int, l.foldl (fun a b => a * 256 + b) a = a * 256 ^ l.length + num l := by
  induction l with
  | nil => intro a; simp [num]
  | cons c l ih =>
    intro a
    simp only [num, List.foldl_cons, List.length_cons]
    rw [ih, ih (0 * 256 + c), Int.pow_succ]
    simp only [Int.zero_mul, Int.zero_add, Int.add_mul, Int.mul_assoc, Int.add_assoc]
    congr 1
    rw [Int.mul_comm 256]
theorem num_be (n : Int) (k : Nat) (h0 : 0 ≤ n) : num (be n k) = n % 256 ^ k := by
  induction k with
  | zero => simp [be, num]
  | succ k ih =>
    have e : num (be n (k + 1)) = n / 256 ^ k % 256 * 256 ^ k + num (be n k) := by
      have := num_from (be n k) (n / 256 ^ k % 256)
      rw [be_length] at this
      simpa [be, num] using this
    rw [e, ih, Int.pow_succ]
    have hp : (0 : Int) < 256 ^ k := Int.pow_pos (by omega)
    have h2 : n % (256 ^ k * 256) = n % 256 ^ k + 256 ^ k * (n / 256 ^ k % 256) := by
      rw [Int.emod_def, Int.emod_def n (256 ^ k), Int.emod_def (n / 256 ^ k) 256, Int.ediv_ediv_of_nonneg (by omega), Int.mul_sub, Int.mul_assoc]
      omega
    rw [h2, Int.mul_comm]
    omega
theorem getV_put (n : Int) (little : Bool) (rest : List Int) (h0 : 0 ≤ n) (h1 : n < 18446744073709551616) : getV (putL n 8 little ++ rest) 8 little = (n, true) := by
  have hm : many 8 = 8 := rfl
  have hl : (putL n 8 little).length = 8 := by rw [putL_length]; rfl
  unfold getV
  rw [if_neg (by rw [List.length_append, hl]; omega)]
  have e : head (putL n 8 little ++ rest) ((8 : Int).toNat) little = be n 8 := by
    show head (putL n 8 little ++ rest) 8 little = be n 8
    unfold head
    have e2 : (putL n 8 little ++ rest).take 8 = putL n 8 little := by rw [List.take_append_of_le_length (by omega), List.take_of_length_le (by omega)]
    rw [e2]
    unfold putL
    cases little
    · simp [hm]
    · simp only [if_true, hm]; exact le_reverse n 8
  rw [e, num_be n 8 h0, Int.emod_eq_of_lt h0 (by omega)]
end Go.Proofs.YtfknhpgelleenaaDoor.MOct
namespace Go.Proofs.YtfknhpgelleenaaDoor.MOct
open Go
set_option linter.unusedVariables false
set_option linter.unusedSimpArgs false
theorem xor0_u64 (x : Int) (h0 : 0 ≤ x) (h1 : x < 18446744073709551616) : Go.bits .xor .u64 x 0 = x := by
  obtain ⟨a, rfl⟩ := Int.eq_ofNat_of_zero_le h0
  show IntKind.u64.wrap ((BitVec.ofInt 64 (a : Int) ^^^ BitVec.ofInt 64 0).toNat : Int) = _
  have h2 : BitVec.ofInt 64 0 = 0#64 := by decide
  rw [h2, BitVec.xor_zero, ofInt_u64 a (by omega)]
  rw [IntKind.wrap_u64]
  omega
theorem xor1_u64 (x : Int) (h0 : 0 ≤ x) (h1 : x < 18446744073709551616) : Go.bits .xor .u64 x 18446744073709551615 = 18446744073709551615 - x := by
  obtain ⟨a, rfl⟩ := Int.eq_ofNat_of_zero_le h0
  show IntKind.u64.wrap ((BitVec.ofInt 64 (a : Int) ^^^ BitVec.ofInt 64 18446744073709551615).toNat : Int) = _
  have h2 : BitVec.ofInt 64 18446744073709551615 = BitVec.allOnes 64 := by decide
  rw [h2, BitVec.xor_allOnes, BitVec.toNat_not, ofInt_u64 a (by omega), IntKind.wrap_u64]
  omega
theorem xor0_i64 (x : Int) (h0 : 0 ≤ x) (h1 : x < 9223372036854775808) : Go.bits .xor .i64 x 0 = x := by
  obtain ⟨a, rfl⟩ := Int.eq_ofNat_of_zero_le h0
  show IntKind.i64.wrap ((BitVec.ofInt 64 (a : Int) ^^^ BitVec.ofInt 64 0).toNat : Int) = _
  have h2 : BitVec.ofInt 64 0 = 0#64 := by decide
  rw [h2, BitVec.xor_zero, ofInt_u64 a (by omega)]
  rw [IntKind.wrap_i64]
  omega
theorem xor1_i64 (x : Int) (h0 : 0 ≤ x) (h1 : x < 9223372036854775808) : Go.bits .xor .i64 x (-1) = -1 - x := by
  obtain ⟨a, rfl⟩ := Int.eq_ofNat_of_zero_le h0
  show IntKind.i64.wrap ((BitVec.ofInt 64 (a : Int) ^^^ BitVec.ofInt 64 (-1)).toNat : Int) = _
  have h2 : BitVec.ofInt 64 (-1) = BitVec.allOnes 64 := by decide
  rw [h2, BitVec.xor_allOnes, BitVec.toNat_not, ofInt_u64 a (by omega), IntKind.wrap_i64]
  omega
theorem and1_u64 (b : Int) (h0 : 0 ≤ b) (h : b < 18446744073709551616) : Go.bits .and .u64 b 1 = b % 2 :=
  bits_mask .u64 64 (by decide) wraps_u64 1 (by decide) b h0 h
/-- Zig and Zag. -/
def zig (n : Int) : Int := if 0 ≤ n then 2 * n else -2 * n - 1
def zag (z : Int) : Int := if z % 2 = 0 then z / 2 else -(z / 2) - 1
theorem zag_zig (n : Int) : zag (zig n) = n := by unfold zag zig; split <;> split <;> omega
theorem zig_zag (z : Int) (h : 0 ≤ z) : zig (zag z) = z := by unfold zag zig; split <;> split <;> omega
theorem zig_range (n : Int) (h0 : -9223372036854775808 ≤ n) (h1 : n < 9223372036854775808) : 0 ≤ zig n ∧ zig n < 18446744073709551616 := by unfold zig; split <;> omega
theorem zag_range (z : Int) (h0 : 0 ≤ z) (h1 : z < 18446744073709551616) : -9223372036854775808 ≤ zag z ∧ zag z < 9223372036854775808 := by unfold zag; split <;> omega
end Go.Proofs.YtfknhpgelleenaaDoor.MOct
namespace Go.Proofs.YtfknhpgelleenaaDoor.MOct
open Go
set_option linter.unusedVariables false
set_option linter.unusedSimpArgs false
/-- A cell: its key, child, length, local bytes, next page. -/
abbrev Cel := Int × Int × Int × List Int × Int
def isPageV (n : Int) : Bool := decide (1 ≤ n) && decide (n ≤ 4000)
def localV (n : Int) : Int := if n < 0 ∨ n > 20000 then 0 else if n > 96 then 32 else n
def spillsV (c : Cel) : Bool := decide ((c.2.2.2.1.length : Int) < c.2.2.1)
def insideV (c : Cel) : Bool := isPageV c.2.1 && decide (c.2.2.1 = 0) && decide (c.2.2.2.2 = 0) && ((c.2.2.2.1.length : Int) == 0)
def leafyV (c : Cel) : Bool := decide (c.2.1 = 0) && decide (0 ≤ c.2.2.1) && decide (c.2.2.1 ≤ 20000) && decide ((c.2.2.2.1.length : Int) = localV c.2.2.1) && (if spillsV c then isPageV c.2.2.2.2 else decide (c.2.2.2.2 = 0))
/-- May a cell stand in a node? -/
def mayV (leaf : Bool) (c : Cel) : Bool := if leaf then leafyV c else insideV c
/-- May cells stand one behind the other, behind a key? -/
def goodFrom (leaf : Bool) : Option Int → List Cel → Bool
  | _, [] => true
  | p, c :: t => mayV leaf c && (match p with | none => true | some k => decide (k < c.1)) && goodFrom leaf (some c.1) t
def goodV (leaf : Bool) (right : Int) (l : List Cel) : Bool := (leaf == decide (right = 0)) && (leaf || isPageV right) && goodFrom leaf none l
/-- A number's 64 bits. -/
def u64 (n : Int) : Int := n % 18446744073709551616
theorem u64_range (n : Int) : 0 ≤ u64 n ∧ u64 n < 18446744073709551616 := by unfold u64; omega
/-- A cell's size and bytes. -/
def csize (leaf : Bool) (c : Cel) : Int := if leaf then sz (zig c.1) + sz (u64 c.2.2.1) + c.2.2.2.1.length + (if spillsV c then 4 else 0) else 4 + sz (zig c.1)
def cbytes (leaf : Bool) (c : Cel) : List Int := if leaf then vr (zig c.1) ++ vr (u64 c.2.2.1) ++ c.2.2.2.1 ++ (if spillsV c then putL (u64 c.2.2.2.2) 4 false else []) else putL (u64 c.2.1) 4 false ++ vr (zig c.1)
theorem cbytes_length (leaf : Bool) (c : Cel) : ((cbytes leaf c).length : Int) = csize leaf c := by
  have h4 : ∀ n, (putL n 4 false).length = 4 := fun n => by rw [putL_length]; rfl
  have h1 := vr_length_int (zig c.1)
  have h2 := vr_length_int (u64 c.2.2.1)
  unfold cbytes csize
  cases leaf
  · simp only [Bool.false_eq_true, if_false, List.length_append, h4, Int.natCast_add, h1]
    rfl
  · simp only [if_true, List.length_append, Int.natCast_add, h1, h2]
    split <;> simp [h4]
def nsize (leaf : Bool) (l : List Cel) : Int := 7 + (l.map (csize leaf)).sum
def nbody (leaf : Bool) (right : Int) (l : List Cel) : List Int := [if leaf then 1 else 2] ++ putL l.length 2 false ++ putL (u64 right) 4 false ++ l.flatMap (cbytes leaf)
theorem nbody_length (leaf : Bool) (right : Int) (l : List Cel) : ((nbody leaf right l).length : Int) = nsize leaf l := by
  have h4 : ∀ n, (putL n 4 false).length = 4 := fun n => by rw [putL_length]; rfl
  have h2 : ∀ n, (putL n 2 false).length = 2 := fun n => by rw [putL_length]; rfl
  have hf : ((l.flatMap (cbytes leaf)).length : Int) = (l.map (csize leaf)).sum := by
    induction l with
    | nil => rfl
    | cons c t ih => rw [List.flatMap_cons, List.length_append, List.map_cons, List.sum_cons, ← ih, ← cbytes_length, Int.natCast_add]
  unfold nbody nsize
  rw [List.length_append, List.length_append, List.length_append, h4, h2, Int.natCast_add, hf]
  rfl
/-- A node's page. -/
def nbytes (leaf : Bool) (right : Int) (l : List Cel) : List Int := if goodV leaf right l = true ∧ nsize leaf l ≤ 512 then nbody leaf right l ++ List.replicate (512 - (nbody leaf right l).length) 0 else []
theorem nbytes_length (leaf : Bool) (right : Int) (l : List Cel) (h : goodV leaf right l = true ∧ nsize leaf l ≤ 512) : (nbytes leaf right l).length = 512 := by
  have := nbody_length leaf right l
  unfold nbytes
  rw [if_pos h, List.length_append, List.length_replicate]
  omega
/-- Where a key stands, or would. -/
def findV (l : List Cel) (key : Int) : Int × Bool := match l.findIdx? (fun c => decide (key ≤ c.1)) with
  | some i => (i, (l.getD i (0, 0, 0, [], 0)).1 == key)
  | none => (l.length, false)
end Go.Proofs.YtfknhpgelleenaaDoor.MOct
namespace Go.Proofs.YtfknhpgelleenaaDoor.MChoose
open Go Go.Proofs.YtfknhpgelleenaaDoor.MWide Go.Proofs.YtfknhpgelleenaaDoor.MBox
set_option linter.unusedVariables false
set_option linter.unusedSimpArgs false

structure En where
  id : Int
  bx : Bx
def En0 : En := ⟨0, zeroB⟩
/-- May entries be? -/
def goodL (l : List En) : Bool := decide (l.length ≤ 64) && l.all (fun e => has e.bx)
def bxAt (l : List En) (i : Nat) : Bx := (l.getD i En0).bx
theorem bxAt_has {l : List En} (h : goodL l = true) {i : Nat} (hi : i < l.length) : has (bxAt l i) = true := by
  unfold goodL at h
  simp only [Bool.and_eq_true, List.all_eq_true] at h
  refine h.2 _ ?_
  rw [List.getD_eq_getElem?_getD, List.getElem?_eq_getElem hi]
  exact List.getElem_mem hi

/-! ### the best of so many -/
def bestTo (better : Nat → Nat → Bool) : Nat → Int
  | 0 => -1
  | k + 1 => if bestTo better k < 0 ∨ better k (bestTo better k).toNat = true then (k : Int) else bestTo better k
theorem bestTo_range (better : Nat → Nat → Bool) (k : Nat) : -1 ≤ bestTo better k ∧ bestTo better k < k ∧ (0 < k → 0 ≤ bestTo better k) := by
  induction k with
  | zero => simp [bestTo]
  | succ k ih =>
    rw [bestTo]
    split <;> omega
theorem bestTo_congr {f g : Nat → Nat → Bool} (k : Nat) (h : ∀ i j, j < i → i < k → f i j = g i j) : bestTo f k = bestTo g k := by
  induction k with
  | zero => rfl
  | succ k ih =>
    have e := ih (fun i j h1 h2 => h i j h1 (by omega))
    rw [bestTo, bestTo, e]
    have hr := bestTo_range g k
    by_cases h0 : bestTo g k < 0
    · rw [if_pos (.inl h0), if_pos (.inl h0)]
    · rw [h k (bestTo g k).toNat (by omega) (by omega)]
/-- Nothing is before the best, where it is told by a number that two orders agree on. -/
theorem bestTo_least (better : Nat → Nat → Bool) (key : Nat → Int) (hb : ∀ i j, better i j = true → key i ≤ key j) (hn : ∀ i j, better i j = false → key j ≤ key i) (k : Nat) (i : Nat) (hi : i < k) : key (bestTo better k).toNat ≤ key i := by
  induction k with
  | zero => omega
  | succ k ih =>
    rw [bestTo]
    have hr := bestTo_range better k
    split
    · rename_i h
      rw [Int.toNat_natCast]
      rcases Nat.lt_or_eq_of_le (Nat.le_of_lt_succ hi) with hlt | rfl
      · rcases h with h | h
        · omega
        · exact Int.le_trans (hb _ _ h) (ih hlt)
      · exact Int.le_refl _
    · rename_i h
      rcases Nat.lt_or_eq_of_le (Nat.le_of_lt_succ hi) with hlt | rfl
      · exact ih hlt
      · refine hn _ _ ?_
        rcases hbb : better i (bestTo better i).toNat with _ | _
        · rfl
        · exact absurd (.inr hbb) h

/-! ### the entry that grows least -/
theorem lexi_lt {x y c : Int} (h : (if cmpV x y ≠ 0 then cmpV x y else c) < 0) : x ≤ y := by
  unfold cmpV at h
  rcases Int.lt_trichotomy x y with hc | hc | hc
  · omega
  · omega
  · rw [if_neg (show ¬ x < y by omega), if_neg (show ¬ x = y by omega)] at h
    simp at h
theorem lexi_ge {x y c : Int} (h : ¬ (if cmpV x y ≠ 0 then cmpV x y else c) < 0) : y ≤ x := by
  unfold cmpV at h
  rcases Int.lt_trichotomy x y with hc | hc | hc
  · rw [if_pos hc] at h
    simp at h
  · omega
  · omega
def ordP (l : List En) (b : Bx) (i j : Nat) : Int :=
  if cmpV (growth (bxAt l i) b) (growth (bxAt l j) b) ≠ 0 then cmpV (growth (bxAt l i) b) (growth (bxAt l j) b) else cmpV (area (bxAt l i)) (area (bxAt l j))
def betterP (l : List En) (b : Bx) (i j : Nat) : Bool := decide (ordP l b i j < 0)
def pickV (l : List En) (b : Bx) : Int := if (goodL l && has b) = true then bestTo (betterP l b) l.length else -1
theorem pick_least {l : List En} {b : Bx} (i : Nat) (hi : i < l.length) : growth (bxAt l (bestTo (betterP l b) l.length).toNat) b ≤ growth (bxAt l i) b := by
  refine bestTo_least (betterP l b) (fun i => growth (bxAt l i) b) ?_ ?_ l.length i hi
  · intro i j h
    simp only [betterP, ordP] at h
    exact lexi_lt (of_decide_eq_true h)
  · intro i j h
    simp only [betterP, ordP] at h
    exact lexi_ge (of_decide_eq_false h)

/-! ### the two that waste most -/
/-- What two waste, with its sign. -/
def sw (a b : Bx) : Int := area (union a b) - (area a + area b)
theorem sw_comm (a b : Bx) : sw a b = sw b a := by unfold sw; rw [union_comm]; omega
theorem waste_sw (a b : Bx) : wasteN a b = decide (sw a b < 0) ∧ waste a b = (if sw a b < 0 then - sw a b else sw a b) := by
  unfold waste wasteN sw
  refine ⟨by rw [decide_eq_decide]; omega, ?_⟩
  simp only [decide_eq_true_eq]
  split <;> split <;> omega
/-- Is one waste above another one? -/
def above (a b c d : Bx) : Bool := decide (sw c d < sw a b)
theorem above_ref (a b c d : Bx) : above a b c d = (if wasteN a b != wasteN c d then wasteN c d else if wasteN a b then decide (waste a b < waste c d) else decide (waste c d < waste a b)) := by
  obtain ⟨h1, h2⟩ := waste_sw a b
  obtain ⟨h3, h4⟩ := waste_sw c d
  unfold above
  rw [h1, h3, h2, h4]
  generalize sw a b = x at *
  generalize sw c d = y at *
  by_cases hx : x < 0 <;> by_cases hy : y < 0 <;> simp [hx, hy] <;> omega
def seedStep (l : List En) (st : Int × Int) (i j : Nat) : Int × Int := if st.1 < 0 ∨ above (bxAt l i) (bxAt l j) (bxAt l st.1.toNat) (bxAt l st.2.toNat) = true then ((i : Int), (j : Int)) else st
def seedRow (l : List En) (i : Nat) (st : Int × Int) : Nat → Int × Int
  | 0 => st
  | k + 1 => seedStep l (seedRow l i st k) i (i + 1 + k)
def seedAll (l : List En) (st : Int × Int) : Nat → Int × Int
  | 0 => st
  | i + 1 => seedRow l i (seedAll l st i) (l.length - (i + 1))
def seedsV (l : List En) : Int × Int := if goodL l = true then seedAll l (-1, -1) l.length else (-1, -1)
/-- What a state of the search may be: none yet, or a pair. -/
def Pair (n : Nat) (st : Int × Int) : Prop := (st.1 = -1 ∧ st.2 = -1) ∨ (0 ≤ st.1 ∧ st.1 < st.2 ∧ st.2 < n)
theorem step_pair {l : List En} {st : Int × Int} {i j : Nat} (hs : Pair l.length st) (h : i < j) (hj : j < l.length) : Pair l.length (seedStep l st i j) := by
  unfold seedStep
  split
  · refine .inr ⟨?_, ?_, ?_⟩ <;> simp only <;> omega
  · exact hs
theorem row_pair {l : List En} {st : Int × Int} {i : Nat} (hs : Pair l.length st) (k : Nat) (hk : i + 1 + k ≤ l.length) : Pair l.length (seedRow l i st k) := by
  induction k with
  | zero => exact hs
  | succ k ih => exact step_pair (ih (by omega)) (by omega) (by omega)
theorem all_pair {l : List En} {st : Int × Int} (hs : Pair l.length st) (i : Nat) (hi : i ≤ l.length) : Pair l.length (seedAll l st i) := by
  induction i with
  | zero => exact hs
  | succ i ih => exact row_pair (ih (by omega)) _ (by omega)
/-- What a state holds against a pair that has been looked at. -/
def Beats (l : List En) (st : Int × Int) (x y : Nat) : Prop := 0 ≤ st.1 ∧ sw (bxAt l x) (bxAt l y) ≤ sw (bxAt l st.1.toNat) (bxAt l st.2.toNat)
theorem step_self (l : List En) (st : Int × Int) (i j : Nat) : Beats l (seedStep l st i j) i j := by
  unfold seedStep Beats
  split
  · simp
  · rename_i h
    unfold above at h
    simp only [decide_eq_true_eq] at h
    omega
theorem step_keeps {l : List En} {st : Int × Int} {x y : Nat} (i j : Nat) (h : Beats l st x y) : Beats l (seedStep l st i j) x y := by
  unfold seedStep
  split
  · rename_i hc
    unfold Beats above at *
    simp only [decide_eq_true_eq] at hc
    simp only [Int.toNat_natCast]
    omega
  · exact h
theorem row_keeps {l : List En} {st : Int × Int} {x y : Nat} (i k : Nat) (h : Beats l st x y) : Beats l (seedRow l i st k) x y := by
  induction k with
  | zero => exact h
  | succ k ih => exact step_keeps _ _ ih
theorem row_self (l : List En) (st : Int × Int) (i k j : Nat) (h1 : i < j) (h2 : j < i + 1 + k) : Beats l (seedRow l i st k) i j := by
  induction k with
  | zero => omega
  | succ k ih =>
    rw [seedRow]
    by_cases hj : j = i + 1 + k
    · subst hj; exact step_self _ _ _ _
    · exact step_keeps _ _ (ih (by omega))
theorem all_beats (l : List En) (st : Int × Int) (n x y : Nat) (h1 : x < y) (h2 : y < l.length) (h3 : x < n) : Beats l (seedAll l st n) x y := by
  induction n with
  | zero => omega
  | succ i ih =>
    rw [seedAll]
    by_cases hx : x = i
    · subst hx; exact row_self _ _ _ _ _ h1 (by omega)
    · exact row_keeps _ _ (ih (by omega))
/-- The document's way begins with the first two: it comes to the same. -/
theorem row_first (l : List En) (k : Nat) (hk : 0 < k) : seedRow l 0 (0, 1) k = seedRow l 0 (-1, -1) k := by
  induction k with
  | zero => omega
  | succ k ih =>
    rw [seedRow, seedRow]
    by_cases h0 : k = 0
    · subst h0
      have ha : above (bxAt l 0) (bxAt l (0 + 1 + 0)) (bxAt l 0) (bxAt l 1) = false := by simp [above]
      show seedStep l (0, 1) 0 (0 + 1 + 0) = seedStep l (-1, -1) 0 (0 + 1 + 0)
      unfold seedStep
      have h1 : ¬ (((0 : Int), (1 : Int)).1 < 0 ∨ above (bxAt l 0) (bxAt l (0 + 1 + 0)) (bxAt l ((0 : Int), (1 : Int)).1.toNat) (bxAt l ((0 : Int), (1 : Int)).2.toNat) = true) := by
        rintro (h | h)
        · exact absurd h (by decide)
        · exact absurd (ha.symm.trans h) (by decide)
      have h2 : (((-1 : Int), (-1 : Int)).1 < 0 ∨ above (bxAt l 0) (bxAt l (0 + 1 + 0)) (bxAt l ((-1 : Int), (-1 : Int)).1.toNat) (bxAt l ((-1 : Int), (-1 : Int)).2.toNat) = true) := .inl (by decide)
      rw [if_neg h1, if_pos h2]
      rfl
    · rw [ih (by omega)]
theorem all_first (l : List En) (n : Nat) (hn : 0 < n) (hl : 2 ≤ l.length) : seedAll l (0, 1) n = seedAll l (-1, -1) n := by
  induction n with
  | zero => omega
  | succ n ih =>
    rw [seedAll, seedAll]
    by_cases h0 : n = 0
    · subst h0; exact row_first l _ (by omega)
    · rw [ih (by omega)]
theorem seeds_short {l : List En} (h : l.length < 2) : seedsV l = (-1, -1) := by
  unfold seedsV
  split
  · rcases (by omega : l.length = 0 ∨ l.length = 1) with h | h <;> rw [h]
    · rfl
    · simp [seedAll, h, seedRow]
  · rfl
theorem seeds_long {l : List En} (hg : goodL l = true) (h : 2 ≤ l.length) : 0 ≤ (seedsV l).1 ∧ (seedsV l).1 < (seedsV l).2 ∧ (seedsV l).2 < l.length ∧
    ∀ x y : Nat, x < y → y < l.length → sw (bxAt l x) (bxAt l y) ≤ sw (bxAt l (seedsV l).1.toNat) (bxAt l (seedsV l).2.toNat) := by
  unfold seedsV
  rw [if_pos hg]
  have hp := all_pair (l := l) (st := (-1, -1)) (.inl ⟨rfl, rfl⟩) l.length (Nat.le_refl _)
  have hb := all_beats l (-1, -1) l.length
  have h01 := hb 0 1 (by omega) (by omega) (by omega)
  rcases hp with ⟨h1, _⟩ | ⟨h1, h2, h3⟩
  · have := h01.1; omega
  · exact ⟨h1, h2, h3, fun x y hx hy => (hb x y hx hy (by omega)).2⟩

/-! ### the next one -/
def far (l : List En) (a b : Bx) (i : Nat) : Int := (((growth a (bxAt l i) - growth b (bxAt l i)).natAbs : Nat) : Int)
def apartV (a b : Int) : Int := (((a - b).natAbs : Nat) : Int)
theorem apartV_u {a b : Int} (ha : U192 a) (hb : U192 b) : U192 (apartV a b) := by unfold apartV U192 at *; omega
def betterN (l : List En) (a b : Bx) (i j : Nat) : Bool := decide (far l a b j < far l a b i)
def nextI (l : List En) (a b : Bx) : Int := if (goodL l && decide (0 < l.length)) = true then bestTo (betterN l a b) l.length else -1
def nextC (l : List En) (a b : Bx) : Int :=
  if cmpV (growth a (bxAt l (nextI l a b).toNat)) (growth b (bxAt l (nextI l a b).toNat)) ≠ 0 then cmpV (growth a (bxAt l (nextI l a b).toNat)) (growth b (bxAt l (nextI l a b).toNat)) else cmpV (area a) (area b)
def nextB (l : List En) (a b : Bx) : Bool := if (goodL l && decide (0 < l.length)) = true then decide (nextC l a b ≤ 0) else false
theorem nextI_range {l : List En} (hg : goodL l = true) (h : 0 < l.length) (a b : Bx) : 0 ≤ nextI l a b ∧ nextI l a b < l.length := by
  unfold nextI
  rw [if_pos (by simp [hg, h])]
  have := bestTo_range (betterN l a b) l.length
  omega

/-! ### parted -/
def bound (l : List En) : Bx := l.foldl (fun o e => union o e.bx) noneB
theorem bound_snoc (l : List En) (e : En) : bound (l ++ [e]) = union (bound l) e.bx := by simp [bound]
/-- Entries without the k-th. -/
def without (l : List En) (k : Nat) : List En := l.take k ++ l.drop (k + 1)
def splitGo : Nat → List En → List En → List En → List En × List En
  | 0, a, b, _ => (a, b)
  | n + 1, a, b, left =>
    if left = [] then (a, b)
    else if a.length + left.length ≤ 3 then (a ++ left, b)
    else if b.length + left.length ≤ 3 then (a, b ++ left)
    else
      let k := (nextI left (bound a) (bound b)).toNat
      if nextB left (bound a) (bound b) = true then splitGo n (a ++ [left.getD k En0]) b (without left k) else splitGo n a (b ++ [left.getD k En0]) (without left k)
def splitV (l : List En) : List En × List En :=
  if (seedsV l).1 < 0 then ([], [])
  else splitGo l.length [l.getD (seedsV l).1.toNat En0] [l.getD (seedsV l).2.toNat En0] (without (without l (seedsV l).2.toNat) (seedsV l).1.toNat)
theorem without_length {l : List En} {k : Nat} (h : k < l.length) : (without l k).length = l.length - 1 := by
  unfold without
  rw [List.length_append, List.length_take, List.length_drop]; omega
theorem without_perm {l : List En} {k : Nat} (h : k < l.length) : List.Perm (l.getD k En0 :: without l k) l := by
  unfold without
  have e : l = l.take k ++ (l.getD k En0 :: l.drop (k + 1)) := by
    rw [List.getD_eq_getElem?_getD, List.getElem?_eq_getElem h, Option.getD_some, List.getElem_cons_drop, List.take_append_drop]
  conv => rhs; rw [e]
  exact (List.perm_middle).symm
theorem goodL_perm {l m : List En} (h : List.Perm l m) : goodL l = goodL m := by
  unfold goodL
  rw [h.length_eq, Bool.eq_iff_iff]
  simp only [Bool.and_eq_true, List.all_eq_true, decide_eq_true_eq]
  exact and_congr_right fun _ => ⟨fun hx x hm => hx x (h.mem_iff.2 hm), fun hx x hm => hx x (h.mem_iff.1 hm)⟩
theorem goodL_sub {l m : List En} (h : List.Sublist l m) (hg : goodL m = true) : goodL l = true := by
  unfold goodL at *
  simp only [Bool.and_eq_true, List.all_eq_true, decide_eq_true_eq] at *
  exact ⟨Nat.le_trans h.length_le hg.1, fun x hx => hg.2 x (h.mem hx)⟩
theorem without_sub (l : List En) (k : Nat) : List.Sublist (without l k) l := by
  unfold without
  conv => rhs; rw [← List.take_append_drop k l]
  exact (List.Sublist.refl _).append (by rw [← List.drop_drop]; exact List.drop_sublist _ _)
/-- What a parting comes to: each entry once, the groups' beginnings, and their least. -/
theorem split_go (n : Nat) : ∀ a b left : List En, left.length ≤ n → goodL left = true → 0 < a.length → 0 < b.length → 6 ≤ a.length + b.length + left.length ∨ True →
    List.Perm ((splitGo n a b left).1 ++ (splitGo n a b left).2) (a ++ b ++ left) ∧ a <+: (splitGo n a b left).1 ∧ b <+: (splitGo n a b left).2 ∧
    (6 ≤ a.length + b.length + left.length → 3 ≤ a.length + left.length → 3 ≤ b.length + left.length → 3 ≤ (splitGo n a b left).1.length ∧ 3 ≤ (splitGo n a b left).2.length) := by
  induction n with
  | zero =>
    intro a b left hn hg ha hb _
    have : left = [] := List.eq_nil_of_length_eq_zero (by omega)
    subst this
    simp only [splitGo, List.append_nil, List.length_nil]
    exact ⟨List.Perm.refl _, List.prefix_refl _, List.prefix_refl _, fun h1 h2 h3 => ⟨by omega, by omega⟩⟩
  | succ n ih =>
    intro a b left hn hg ha hb _
    rw [splitGo]
    split
    · rename_i h
      subst h
      simp only [List.append_nil, List.length_nil]
      exact ⟨List.Perm.refl _, List.prefix_refl _, List.prefix_refl _, fun h1 h2 h3 => ⟨by omega, by omega⟩⟩
    · rename_i hne
      have hpos : 0 < left.length := by
        rcases left with _ | ⟨x, l⟩
        · exact absurd rfl hne
        · simp
      split
      · refine ⟨?_, List.prefix_append _ _, List.prefix_refl _, fun h1 h2 h3 => ⟨by simp only [List.length_append]; omega, by simp only; omega⟩⟩
        rw [List.append_assoc, List.append_assoc]
        exact List.Perm.append_left a List.perm_append_comm
      · split
        · refine ⟨?_, List.prefix_refl _, List.prefix_append _ _, fun h1 h2 h3 => ⟨by simp only; omega, by simp only [List.length_append]; omega⟩⟩
          rw [List.append_assoc]
        · rename_i h3a h3b
          have hr := nextI_range hg hpos (bound a) (bound b)
          have hk : (nextI left (bound a) (bound b)).toNat < left.length := by omega
          have hp := without_perm hk
          have hl := without_length hk
          have hg2 := goodL_sub (without_sub left (nextI left (bound a) (bound b)).toNat) hg
          simp only
          generalize (nextI left (bound a) (bound b)).toNat = k at *
          generalize left.getD k En0 = x at *
          split
          · obtain ⟨h1, h2, h3, h4⟩ := ih (a ++ [x]) b (without left k) (by omega) hg2 (by simp) hb (.inr trivial)
            refine ⟨?_, (List.prefix_append _ _).trans h2, h3, fun g1 g2 g3 => h4 ?_ ?_ ?_⟩
            · refine h1.trans ?_
              rw [List.append_assoc, List.append_assoc, List.append_assoc]
              refine List.Perm.append_left a ?_
              exact ((List.perm_middle (a := x) (l₁ := b) (l₂ := without left k)).symm.trans (List.Perm.append_left b hp))
            · simp only [List.length_append, List.length_singleton]; omega
            · simp only [List.length_append, List.length_singleton]; omega
            · omega
          · obtain ⟨h1, h2, h3, h4⟩ := ih a (b ++ [x]) (without left k) (by omega) hg2 ha (by simp) (.inr trivial)
            refine ⟨?_, h2, (List.prefix_append _ _).trans h3, fun g1 g2 g3 => h4 ?_ ?_ ?_⟩
            · refine h1.trans ?_
              rw [List.append_assoc, List.append_assoc, List.append_assoc, List.singleton_append]
              exact List.Perm.append_left a (List.Perm.append_left b hp)
            · simp only [List.length_append, List.length_singleton]; omega
            · omega
            · simp only [List.length_append, List.length_singleton]; omega
theorem getD_without {l : List En} {k j : Nat} (h : j < k) (hk : k < l.length) : (without l k).getD j En0 = l.getD j En0 := by
  unfold without
  rw [List.getD_eq_getElem?_getD, List.getD_eq_getElem?_getD, List.getElem?_append_left (by rw [List.length_take]; omega), List.getElem?_take_of_lt h]
theorem split_parts {l : List En} (hg : goodL l = true) (h : 2 ≤ l.length) :
    List.Perm ((splitV l).1 ++ (splitV l).2) l ∧ (splitV l).1.getD 0 En0 = l.getD (seedsV l).1.toNat En0 ∧ (splitV l).2.getD 0 En0 = l.getD (seedsV l).2.toNat En0 ∧ 0 < (splitV l).1.length ∧ 0 < (splitV l).2.length ∧
    (6 ≤ l.length → 3 ≤ (splitV l).1.length ∧ 3 ≤ (splitV l).2.length) := by
  obtain ⟨s1, s2, s3, _⟩ := seeds_long hg h
  unfold splitV
  rw [if_neg (by omega)]
  generalize seedsV l = st at *
  obtain ⟨x, y⟩ := st
  simp only at *
  obtain ⟨i, rfl⟩ := Int.eq_ofNat_of_zero_le s1
  obtain ⟨j, rfl⟩ := Int.eq_ofNat_of_zero_le (show 0 ≤ y by omega)
  simp only [Int.toNat_natCast] at *
  have hj : j < l.length := by omega
  have hij : i < j := by omega
  have l1 := without_length hj
  have hi : i < (without l j).length := by omega
  have l2 := without_length hi
  have p1 := without_perm hj
  have p2 := without_perm hi
  rw [getD_without hij hj] at p2
  have g2 := goodL_sub ((without_sub (without l j) i).trans (without_sub l j)) hg
  obtain ⟨h1, h2, h3, h4⟩ := split_go l.length [l.getD i En0] [l.getD j En0] (without (without l j) i) (by omega) g2 (by simp) (by simp) (.inr trivial)
  generalize splitGo l.length [l.getD i En0] [l.getD j En0] (without (without l j) i) = s at *
  obtain ⟨A, B⟩ := s
  simp only at *
  refine ⟨?_, ?_, ?_, ?_, ?_, fun h6 => h4 ?_ ?_ ?_⟩
  · refine h1.trans ?_
    rw [List.append_assoc, List.singleton_append, List.singleton_append]
    exact ((List.Perm.swap _ _ _).trans (List.Perm.cons _ p2)).trans p1
  · obtain ⟨t, rfl⟩ := h2; rfl
  · obtain ⟨t, rfl⟩ := h3; rfl
  · obtain ⟨t, rfl⟩ := h2; simp
  · obtain ⟨t, rfl⟩ := h3; simp
  · simp only [List.length_singleton]; omega
  · simp only [List.length_singleton]; omega
  · simp only [List.length_singleton]; omega
end Go.Proofs.YtfknhpgelleenaaDoor.MChoose
namespace Go.Proofs.YtfknhpgelleenaaDoor.MShape
set_option linter.unusedVariables false
set_option linter.unusedSimpArgs false

/-- A shape: its kind, its points, its parts. -/
inductive Sh where
  | mk (kind : Int) (pts : List (Int × Int)) (parts : List Sh)
def Sh.kind : Sh → Int | .mk k _ _ => k
def Sh.pts : Sh → List (Int × Int) | .mk _ p _ => p
def Sh.parts : Sh → List Sh | .mk _ _ p => p
/-- What is counted. -/
structure Cn where
  points : Int
  parts : Int
  depth : Int
theorem Cn.ext' {a b : Cn} (h0 : a.points = b.points) (h1 : a.parts = b.parts) (h2 : a.depth = b.depth) : a = b := by
  cases a; cases b; simp_all
def deeper (k k' d : Int) : Int := if k = 3 ∧ k' = 0 then d else d + 1
theorem deeper_le (k k' d : Int) : d ≤ deeper k k' d ∧ deeper k k' d ≤ d + 1 := by unfold deeper; split <;> omega
def mn (a b : Int) : Int := if a < b then a else b
def mx (a b : Int) : Int := if a < b then b else a
theorem mn_iff (a b : Int) : mn a b ≤ a ∧ mn a b ≤ b ∧ (mn a b = a ∨ mn a b = b) := by unfold mn; split <;> omega
theorem mx_iff (a b : Int) : a ≤ mx a b ∧ b ≤ mx a b ∧ (mx a b = a ∨ mx a b = b) := by unfold mx; split <;> omega
/-- Is there nothing more to count? -/
def full (c : Cn) : Bool := decide (4000 < c.points) && (decide (1000 < c.parts) && decide (16 < c.depth))
def goes (k : Int) (p : Sh) (d : Int) (c : Cn) : Bool := decide (deeper k p.kind d ≤ 17) && !full c
def own1 (n : Nat) (d : Int) (c : Cn) : Cn := ⟨mn (c.points + mn n 4001) 4001, mn (c.parts + 1) 1001, mx c.depth d⟩
mutual
def cnt : Sh → Int → Cn → Cn
  | .mk k pts ps, d, c => cnts k ps d (own1 pts.length d c)
def cnts (k : Int) : List Sh → Int → Cn → Cn
  | [], _, c => c
  | p :: ps, d, c => cnts k ps d (if goes k p d c = true then cnt p (deeper k p.kind d) c else c)
end
/-! without bounds -/
mutual
def Sh.flat : Sh → List (Int × Int)
  | .mk _ pts ps => pts ++ flats ps
def flats : List Sh → List (Int × Int)
  | [] => []
  | p :: ps => p.flat ++ flats ps
end
mutual
def Sh.nodes : Sh → Int
  | .mk _ _ ps => 1 + nodess ps
def nodess : List Sh → Int
  | [] => 0
  | p :: ps => p.nodes + nodess ps
end
mutual
def Sh.dep : Sh → Int → Int
  | .mk k _ ps, d => deps k ps d d
def deps (k : Int) : List Sh → Int → Int → Int
  | [], _, m => m
  | p :: ps, d, m => deps k ps d (mx m (p.dep (deeper k p.kind d)))
end
mutual
theorem nodes_pos : ∀ s : Sh, 1 ≤ s.nodes
  | .mk _ _ ps => by have := nodess_nn ps; unfold Sh.nodes; omega
theorem nodess_nn : ∀ l : List Sh, 0 ≤ nodess l
  | [] => by unfold nodess; omega
  | p :: ps => by have := nodes_pos p; have := nodess_nn ps; unfold nodess; omega
end
mutual
theorem dep_le : ∀ (s : Sh) (d : Int), d ≤ s.dep d
  | .mk k _ ps, d => by unfold Sh.dep; exact deps_le k ps d d
theorem deps_le (k : Int) : ∀ (l : List Sh) (d m : Int), m ≤ deps k l d m
  | [], d, m => by unfold deps; omega
  | p :: ps, d, m => by
    unfold deps
    have h1 := deps_le k ps d (mx m (p.dep (deeper k p.kind d)))
    have h2 := mx_iff m (p.dep (deeper k p.kind d))
    omega
end
def Cn.le (a b : Cn) : Prop := a.points ≤ b.points ∧ a.parts ≤ b.parts ∧ a.depth ≤ b.depth
/-- Not above what is counted. -/
def Cn.in_ (c : Cn) : Prop := 0 ≤ c.points ∧ c.points ≤ 4001 ∧ -1 ≤ c.parts ∧ c.parts ≤ 1001
theorem own1_le (n : Nat) (d : Int) (c : Cn) (h : c.in_) : c.le (own1 n d c) ∧ (own1 n d c).in_ ∧ d ≤ (own1 n d c).depth := by
  unfold own1 Cn.le Cn.in_ at *
  have h1 := mn_iff (c.points + mn n 4001) 4001
  have h2 := mn_iff n 4001
  have h3 := mn_iff (c.parts + 1) 1001
  have h4 := mx_iff c.depth d
  simp only
  omega
mutual
theorem cnt_le : ∀ (s : Sh) (d : Int) (c : Cn), c.in_ → c.le (cnt s d c) ∧ (cnt s d c).in_
  | .mk k pts ps, d, c, h => by
    unfold cnt
    obtain ⟨h1, h2, _⟩ := own1_le pts.length d c h
    obtain ⟨h3, h4⟩ := cnts_le k ps d _ h2
    exact ⟨⟨by have := h1.1; have := h3.1; omega, by have := h1.2.1; have := h3.2.1; omega, by have := h1.2.2; have := h3.2.2; omega⟩, h4⟩
theorem cnts_le (k : Int) : ∀ (l : List Sh) (d : Int) (c : Cn), c.in_ → c.le (cnts k l d c) ∧ (cnts k l d c).in_
  | [], d, c, h => by unfold cnts; exact ⟨⟨by omega, by omega, by omega⟩, h⟩
  | p :: ps, d, c, h => by
    unfold cnts
    split
    · obtain ⟨h1, h2⟩ := cnt_le p (deeper k p.kind d) c h
      obtain ⟨h3, h4⟩ := cnts_le k ps d _ h2
      exact ⟨⟨by have := h1.1; have := h3.1; omega, by have := h1.2.1; have := h3.2.1; omega, by have := h1.2.2; have := h3.2.2; omega⟩, h4⟩
    · exact cnts_le k ps d c h
end
def Cn.ok (c : Cn) : Prop := c.points ≤ 4000 ∧ c.parts ≤ 1000 ∧ c.depth ≤ 16
def Cn.add (c : Cn) (n q d : Int) : Cn := ⟨c.points + n, c.parts + q, mx c.depth d⟩
theorem mx_assoc (a b c : Int) : mx (mx a b) c = mx a (mx b c) := by
  have := mx_iff a b; have := mx_iff (mx a b) c; have := mx_iff b c; have := mx_iff a (mx b c); omega
theorem mx_le {a b : Int} (h : b ≤ a) : mx a b = a := by have := mx_iff a b; omega
theorem deps_mx (k : Int) : ∀ (l : List Sh) (d a m : Int), mx a (deps k l d m) = deps k l d (mx a m)
  | [], d, a, m => by unfold deps; rfl
  | p :: ps, d, a, m => by unfold deps; rw [deps_mx k ps, mx_assoc]
mutual
/-- Where the count is within the bounds it is exact. -/
theorem cnt_ok : ∀ (s : Sh) (d : Int) (c : Cn), c.in_ → (cnt s d c).ok → cnt s d c = c.add s.flat.length s.nodes (s.dep d)
  | .mk k pts ps, d, c, h, ho => by
    unfold cnt at ho ⊢
    obtain ⟨h1, h2, h3⟩ := own1_le pts.length d c h
    have h4 := (cnts_le k ps d _ h2).1
    have h5 := cnts_ok k ps d _ h2 h3 ho
    rw [h5]
    have ho2 : (own1 pts.length d c).ok := ⟨by have := h4.1; have := ho.1; omega, by have := h4.2.1; have := ho.2.1; omega, by have := h4.2.2; have := ho.2.2; omega⟩
    unfold own1 Cn.ok at ho2
    simp only at ho2
    unfold own1 Cn.add Sh.flat Sh.nodes Sh.dep
    have h0 := h.1
    have m1 := mn_iff (c.points + mn pts.length 4001) 4001
    have m2 := mn_iff pts.length 4001
    have m3 := mn_iff (c.parts + 1) 1001
    refine Cn.ext' ?_ ?_ ?_
    · simp only [List.length_append, Int.natCast_add]; omega
    · simp only; omega
    · simp only
      rw [deps_mx, deps_mx]
      congr 1
      rw [mx_assoc, mx_le (Int.le_refl d)]
theorem cnts_ok (k : Int) : ∀ (l : List Sh) (d : Int) (c : Cn), c.in_ → d ≤ c.depth → (cnts k l d c).ok → cnts k l d c = c.add (flats l).length (nodess l) (deps k l d d)
  | [], d, c, h, hd, ho => by
    unfold cnts Cn.add flats nodess deps
    exact Cn.ext' (by simp) (by simp) (mx_le hd).symm
  | p :: ps, d, c, h, hd, ho => by
    have hm := (cnts_le k (p :: ps) d c h).1
    have hg : goes k p d c = true := by
      unfold goes full
      have h1 := deeper_le k p.kind d
      have h2 := hm.1
      have h3 := hm.2.2
      have h4 := ho.1
      have h5 := ho.2.2
      simp only [Bool.and_eq_true, decide_eq_true_eq, Bool.not_eq_true', Bool.and_eq_false_iff, decide_eq_false_iff_not]
      omega
    unfold cnts at ho ⊢
    rw [if_pos hg] at ho ⊢
    obtain ⟨h1, h2⟩ := cnt_le p (deeper k p.kind d) c h
    have h4 := (cnts_le k ps d _ h2).1
    have ho2 : (cnt p (deeper k p.kind d) c).ok := ⟨by have := h4.1; have := ho.1; omega, by have := h4.2.1; have := ho.2.1; omega, by have := h4.2.2; have := ho.2.2; omega⟩
    have h6 := cnt_ok p _ c h ho2
    rw [cnts_ok k ps d _ h2 (by have := h1.2.2; omega) ho, h6]
    unfold Cn.add
    refine Cn.ext' ?_ ?_ ?_
    · simp only [flats, List.length_append, Int.natCast_add]; omega
    · simp only [nodess]; omega
    · simp only
      rw [deps.eq_2, mx_assoc, deps_mx, deps_mx, deps_mx]
      congr 1
      have a1 := mx_iff d (p.dep (deeper k p.kind d)); have a2 := mx_iff (p.dep (deeper k p.kind d)) d
      have a3 := dep_le p (deeper k p.kind d); have a4 := deeper_le k p.kind d
      have a5 := mx_iff c.depth (mx (p.dep (deeper k p.kind d)) d)
      have a6 := mx_iff c.depth (mx d (p.dep (deeper k p.kind d)))
      omega
end
mutual
/-- Where the exact count is near the bounds the count is exact. -/
theorem cnt_near : ∀ (s : Sh) (d : Int) (c : Cn), c.in_ → c.points + s.flat.length ≤ 4000 → c.parts + s.nodes ≤ 1001 → s.dep d ≤ 17 → cnt s d c = c.add s.flat.length s.nodes (s.dep d)
  | .mk k pts ps, d, c, h, hp, hq, hd => by
    unfold Sh.flat at hp; unfold Sh.nodes at hq; unfold Sh.dep at hd
    rw [List.length_append, Int.natCast_add] at hp
    have hn := nodess_nn ps
    obtain ⟨h1, h2, h3⟩ := own1_le pts.length d c h
    have m1 := mn_iff (c.points + mn pts.length 4001) 4001
    have m2 := mn_iff pts.length 4001
    have m3 := mn_iff (c.parts + 1) 1001
    have h0 := h.1
    have e : own1 pts.length d c = c.add pts.length 1 d := by
      unfold own1 Cn.add
      refine Cn.ext' ?_ ?_ rfl
      · simp only; omega
      · simp only; omega
    unfold cnt
    rw [e] at h2 h3 ⊢
    rw [cnts_near k ps d _ h2 h3 (by unfold Cn.add; simp only; omega) (by unfold Cn.add; simp only; omega) hd]
    unfold Cn.add Sh.flat Sh.nodes Sh.dep
    refine Cn.ext' ?_ ?_ ?_
    · simp only [List.length_append, Int.natCast_add]; omega
    · simp only; omega
    · simp only
      rw [deps_mx, deps_mx]
      congr 1
      rw [mx_assoc, mx_le (Int.le_refl d)]
theorem cnts_near (k : Int) : ∀ (l : List Sh) (d : Int) (c : Cn), c.in_ → d ≤ c.depth → c.points + (flats l).length ≤ 4000 → c.parts + nodess l ≤ 1001 → deps k l d d ≤ 17 → cnts k l d c = c.add (flats l).length (nodess l) (deps k l d d)
  | [], d, c, h, hd, _, _, _ => by
    unfold cnts Cn.add flats nodess deps
    exact Cn.ext' (by simp) (by simp) (mx_le hd).symm
  | p :: ps, d, c, h, hd, hp, hq, hx => by
    unfold flats at hp; unfold nodess at hq; unfold deps at hx
    rw [List.length_append, Int.natCast_add] at hp
    have hn := nodess_nn ps
    have hn' := nodes_pos p
    have hx1 := deps_le k ps d (mx d (p.dep (deeper k p.kind d)))
    have hx2 := mx_iff d (p.dep (deeper k p.kind d))
    have hx3 := dep_le p (deeper k p.kind d)
    have hx4 := deeper_le k p.kind d
    have hg : goes k p d c = true := by
      unfold goes full
      simp only [Bool.and_eq_true, decide_eq_true_eq, Bool.not_eq_true', Bool.and_eq_false_iff, decide_eq_false_iff_not]
      omega
    unfold cnts
    rw [if_pos hg]
    have e := cnt_near p (deeper k p.kind d) c h (by omega) (by omega) (by omega)
    have h2 := (cnt_le p (deeper k p.kind d) c h)
    rw [e] at h2 ⊢
    have hl : deps k ps d d ≤ 17 := by
      have : mx (p.dep (deeper k p.kind d)) (deps k ps d d) = deps k ps d (mx (p.dep (deeper k p.kind d)) d) := deps_mx _ _ _ _ _
      have a1 : mx (p.dep (deeper k p.kind d)) d = mx d (p.dep (deeper k p.kind d)) := by
        have := mx_iff (p.dep (deeper k p.kind d)) d; have := mx_iff d (p.dep (deeper k p.kind d)); omega
      rw [a1] at this
      have := mx_iff (p.dep (deeper k p.kind d)) (deps k ps d d)
      omega
    rw [cnts_near k ps d _ h2.2 (by have := h2.1.2.2; omega) (by unfold Cn.add; simp only; omega) (by unfold Cn.add; simp only; omega) hl]
    unfold Cn.add
    refine Cn.ext' ?_ ?_ ?_
    · simp only [flats, List.length_append, Int.natCast_add]; omega
    · simp only [nodess]; omega
    · simp only
      rw [deps.eq_2, mx_assoc, deps_mx, deps_mx, deps_mx]
      congr 1
      have a1 := mx_iff d (p.dep (deeper k p.kind d)); have a2 := mx_iff (p.dep (deeper k p.kind d)) d
      have a5 := mx_iff c.depth (mx (p.dep (deeper k p.kind d)) d)
      have a6 := mx_iff c.depth (mx d (p.dep (deeper k p.kind d)))
      omega
end
def c0 : Cn := ⟨0, -1, 0⟩
theorem c0_in : c0.in_ := by unfold c0 Cn.in_; simp
def count (s : Sh) : Cn := cnt s 1 c0
/-- May a shape be gone over without a bound? -/
def light (s : Sh) : Bool := decide ((count s).points ≤ 4000) && (decide ((count s).parts ≤ 1000) && decide ((count s).depth ≤ 16))
/-- What a light shape has. -/
theorem light_is {s : Sh} (h : light s = true) : s.flat.length ≤ 4000 ∧ s.nodes ≤ 1001 ∧ s.dep 1 ≤ 16 ∧ count s = ⟨s.flat.length, s.nodes - 1, s.dep 1⟩ := by
  unfold light at h
  simp only [Bool.and_eq_true, decide_eq_true_eq] at h
  have ho : (count s).ok := h
  have e := cnt_ok s 1 c0 c0_in ho
  have hd := dep_le s 1
  have m := mx_iff 0 (s.dep 1)
  have e2 : count s = ⟨s.flat.length, s.nodes - 1, s.dep 1⟩ := by
    show cnt s 1 c0 = _
    rw [e]
    unfold Cn.add c0
    exact Cn.ext' (by simp) (by simp only; omega) (by simp only; omega)
  rw [e2] at h
  simp only at h
  exact ⟨by omega, by omega, by omega, e2⟩
end Go.Proofs.YtfknhpgelleenaaDoor.MShape
namespace Go.Proofs.YtfknhpgelleenaaDoor.MShape
set_option linter.unusedVariables false
set_option linter.unusedSimpArgs false

def isKind (k : Int) : Bool := decide (1 ≤ k) && decide (k ≤ 7)
/-- The kind of a kind's parts; -2: any; -1: none. -/
def partOf (k : Int) : Int := if k = 3 then 0 else if k = 4 then 1 else if k = 5 then 2 else if k = 6 then 3 else if k = 7 then -2 else -1
def ends (pts : List (Int × Int)) : Bool := (pts.getD 0 (0, 0)).1 == (pts.getD (pts.length - 1) (0, 0)).1 && (pts.getD 0 (0, 0)).2 == (pts.getD (pts.length - 1) (0, 0)).2
def own (k : Int) (pts : List (Int × Int)) : Bool :=
  if k = 0 then decide (4 ≤ pts.length) && ends pts else if k = 1 then decide (pts.length ≤ 1) else if k = 2 then !decide (pts.length = 1) else isKind k && decide (pts.length = 0)
def fits (k k' : Int) : Bool := if k = 0 then false else if partOf k = -2 then isKind k' else k' == partOf k
mutual
def right : Sh → Bool
  | .mk k pts ps => own k pts && rights k ps
def rights (k : Int) : List Sh → Bool
  | [] => true
  | p :: ps => (fits k p.kind && right p) && rights k ps
end
def nowhere (p : Int × Int) : Bool := p.1 == -9223372036854775808 || p.2 == -9223372036854775808
def check (s : Sh) : Int :=
  if 16 < (count s).depth then 10 else if 4000 < (count s).points ∨ 1000 < (count s).parts then 12 else if (isKind s.kind && right s) = false then 9 else if s.flat.any nowhere = true then 11 else 0
theorem mx_succ (a b : Int) : mx (a + 1) (b + 1) = mx a b + 1 := by have := mx_iff a b; have := mx_iff (a + 1) (b + 1); omega
theorem deeper_succ (k k' d : Int) : deeper k k' (d + 1) = deeper k k' d + 1 := by unfold deeper; split <;> omega
mutual
theorem dep_succ : ∀ (s : Sh) (d : Int), s.dep (d + 1) = s.dep d + 1
  | .mk k _ ps, d => by unfold Sh.dep; exact deps_succ k ps d d
theorem deps_succ (k : Int) : ∀ (l : List Sh) (d m : Int), deps k l (d + 1) (m + 1) = deps k l d m + 1
  | [], d, m => by unfold deps; rfl
  | p :: ps, d, m => by unfold deps; rw [deeper_succ, dep_succ p, mx_succ, deps_succ k ps]
end
/-- A collection around a shape. -/
def wrap (s : Sh) : Sh := .mk 7 [] [s]
theorem wrap_flat (s : Sh) : (wrap s).flat = s.flat := by show [] ++ (s.flat ++ []) = s.flat; simp
theorem wrap_nodes (s : Sh) : (wrap s).nodes = s.nodes + 1 := by show 1 + (s.nodes + 0) = s.nodes + 1; omega
theorem wrap_dep (s : Sh) : (wrap s).dep 1 = s.dep 1 + 1 := by
  show mx 1 (s.dep (deeper 7 s.kind 1)) = s.dep 1 + 1
  have h : deeper 7 s.kind 1 = 1 + 1 := by unfold deeper; rw [if_neg (by omega)]
  rw [h, dep_succ]
  have := dep_le s 1
  have := mx_iff 1 (s.dep 1 + 1)
  omega
theorem wrap_count {s : Sh} (h : light s = true) : count (wrap s) = ⟨(count s).points, (count s).parts + 1, (count s).depth + 1⟩ := by
  obtain ⟨h1, h2, h3, h4⟩ := light_is h
  have hn := nodes_pos s
  have hd := dep_le s 1
  have e := cnt_near (wrap s) 1 c0 c0_in (by rw [wrap_flat]; unfold c0; simp only; omega) (by rw [wrap_nodes]; unfold c0; simp only; omega) (by rw [wrap_dep]; omega)
  show cnt (wrap s) 1 c0 = _
  rw [e, h4, wrap_flat, wrap_nodes, wrap_dep]
  unfold Cn.add c0
  have m := mx_iff 0 (s.dep 1 + 1)
  exact Cn.ext' (by simp) (by simp only; omega) (by simp only; omega)
theorem wrap_right (s : Sh) : (isKind (wrap s).kind && right (wrap s)) = (isKind s.kind && right s) := by
  have h1 : isKind (wrap s).kind = true := rfl
  have h2 : right (wrap s) = ((fits 7 s.kind && right s) && true) := rfl
  have h3 : fits 7 s.kind = isKind s.kind := rfl
  rw [h1, h2, h3]; simp
theorem wrap_deep {s : Sh} (h : light s = true) (hd : (count s).depth = 16) : check (wrap s) = 10 := by
  unfold check; rw [wrap_count h, if_pos (by simp only; omega)]
theorem wrap_long {s : Sh} (h : light s = true) (hd : (count s).depth ≠ 16) (hp : (count s).parts = 1000) : check (wrap s) = 12 := by
  have hl : (count s).depth ≤ 16 := by unfold light at h; simp only [Bool.and_eq_true, decide_eq_true_eq] at h; exact h.2.2
  unfold check; rw [wrap_count h, if_neg (by simp only; omega), if_pos (by simp only; omega)]
theorem wrap_same {s : Sh} (h : light s = true) (hd : (count s).depth ≠ 16) (hp : (count s).parts ≠ 1000) : check (wrap s) = check s := by
  have hl : (count s).points ≤ 4000 ∧ (count s).parts ≤ 1000 ∧ (count s).depth ≤ 16 := by unfold light at h; simpa only [Bool.and_eq_true, decide_eq_true_eq] using h
  unfold check
  rw [wrap_count h, wrap_right, wrap_flat]
  rw [if_neg (by simp only; omega), if_neg (by simp only; omega), if_neg (c := 16 < (count s).depth) (by omega), if_neg (c := 4000 < (count s).points ∨ 1000 < (count s).parts) (by omega)]
/-! alike -/
def eqPts : List (Int × Int) → List (Int × Int) → Bool
  | [], [] => true
  | a :: l, b :: m => (a.1 == b.1 && a.2 == b.2) && eqPts l m
  | _, _ => false
mutual
def eqS : Sh → Sh → Bool
  | .mk k p ps, .mk k' p' ps' => k == k' && (eqPts p p' && eqsS ps ps')
def eqsS : List Sh → List Sh → Bool
  | [], [] => true
  | a :: l, b :: m => eqS a b && eqsS l m
  | _, _ => false
end
theorem eqPts_iff : ∀ l m, eqPts l m = true ↔ l = m
  | [], [] => by simp [eqPts]
  | [], b :: m => by simp [eqPts]
  | a :: l, [] => by simp [eqPts]
  | (a1, a2) :: l, (b1, b2) :: m => by
    unfold eqPts
    simp only [Bool.and_eq_true, beq_iff_eq, eqPts_iff l m, List.cons.injEq, Prod.mk.injEq]
mutual
theorem eqS_refl : ∀ s : Sh, eqS s s = true
  | .mk k p ps => by unfold eqS; rw [(eqPts_iff p p).2 rfl, eqsS_refl ps]; simp
theorem eqsS_refl : ∀ l : List Sh, eqsS l l = true
  | [] => by unfold eqsS; rfl
  | a :: l => by unfold eqsS; rw [eqS_refl a, eqsS_refl l]; rfl
end
theorem eqPts_len {l m : List (Int × Int)} (h : l.length ≠ m.length) : eqPts l m = false := by
  cases h' : eqPts l m
  · rfl
  · exact absurd (congrArg List.length ((eqPts_iff l m).1 h')) h
theorem eqsS_len : ∀ {l m : List Sh}, l.length ≠ m.length → eqsS l m = false
  | [], [], h => by simp at h
  | [], _ :: _, _ => by simp [eqsS]
  | _ :: _, [], _ => by simp [eqsS]
  | a :: l, b :: m, h => by unfold eqsS; rw [eqsS_len (by simpa using h)]; simp
end Go.Proofs.YtfknhpgelleenaaDoor.MShape
