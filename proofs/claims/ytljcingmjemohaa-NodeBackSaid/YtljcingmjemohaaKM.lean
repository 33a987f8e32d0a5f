/- Texts laid as one: Plain facts on numbers as bytes (layer 2): how many bytes a number takes as a Var, its digits, the number that bytes begin with; no program and no memory. · What is put is got: plain facts about Vars and numbers of so many bytes. · Plain facts of layer 9: Zig and Zag. · Plain facts of layer 9: cells, nodes, their bytes. · Plain facts on shapes (layer 13): trees of points; what is counted of one, with bounds and without; which are light; no program and no memory. · Plain facts on shapes (layer 13): which may be; a collection around one. -/
import Derived.Laws.BitsAllLaws
import Derived.Laws.BitsLemmas
import Derived.Laws.Bits64
import Derived.Laws.Bits64b
import Derived.RowKit
import Derived.Lib.Bytes
import Derived.Laws.BytesArg
import Derived.Test.YtljcingmjemohaaWMore
import Derived.Laws.DeepNot64
namespace Go.Proofs.Ytljcingmjemohaa.MOct
open Go Go.RowKit Go.Proofs.YtljcingmjemohaaW.PrintWords Go.Proofs.YtljcingmjemohaaW.PrintMore
set_option linter.unusedVariables false
set_option linter.unusedSimpArgs false

/-! ### small words -/
theorem shr_u64 (x s : Int) (h1 : s ≤ 64) : shr .u64 x s = x / 2 ^ s.toNat := by
  unfold shr
  have : min s.toNat (IntKind.bits .u64) = s.toNat := by
    have : IntKind.bits .u64 = 64 := rfl
    omega
  rw [this]
theorem or128 (b : Int) (h0 : 0 ≤ b) (h : b < 256) : Go.bits .or .u8 b 128 = b % 128 + 128 := by
  have hall : ∀ n : Fin 256, Go.bits .or .u8 ((n.val : Nat) : Int) 128 = ((n.val : Nat) : Int) % 128 + 128 := by decide +kernel
  have := hall ⟨b.toNat, by omega⟩
  simpa [Int.toNat_of_nonneg h0] using this
theorem andNot128 (b : Int) (h0 : 0 ≤ b) (h : b < 256) : Go.bits .andNot .u8 b 128 = b % 128 := by
  have hall : ∀ n : Fin 256, Go.bits .andNot .u8 ((n.val : Nat) : Int) 128 = ((n.val : Nat) : Int) % 128 := by decide +kernel
  have := hall ⟨b.toNat, by omega⟩
  simpa [Int.toNat_of_nonneg h0] using this
theorem and127 (b : Int) (h0 : 0 ≤ b) (h : b < 256) : Go.bits .and .u8 b 127 = b % 128 := by
  have hall : ∀ n : Fin 256, Go.bits .and .u8 ((n.val : Nat) : Int) 127 = ((n.val : Nat) : Int) % 128 := by decide +kernel
  have := hall ⟨b.toNat, by omega⟩
  simpa [Int.toNat_of_nonneg h0] using this
theorem wraps_u64 (n : Int) (h₀ : 0 ≤ n) (h₁ : n < 2 ^ 64) : IntKind.u64.wrap n = n := by rw [IntKind.wrap_u64]; omega
theorem and127_u64 (b : Int) (h0 : 0 ≤ b) (h : b < 18446744073709551616) : Go.bits .and .u64 b 127 = b % 128 :=
  bits_mask .u64 64 (by decide) wraps_u64 7 (by decide) b h0 h
theorem or_u64 (a b : Int) (i : Nat) (hi : i ≤ 64) (ha : 0 ≤ a) (ha2 : a * 2 ^ i < 18446744073709551616) (hb : 0 ≤ b) (hb2 : b < 2 ^ i) :
    Go.bits .or .u64 (a * 2 ^ i) b = a * 2 ^ i + b := by
  obtain ⟨m, rfl⟩ := Int.eq_ofNat_of_zero_le ha
  obtain ⟨n, rfl⟩ := Int.eq_ofNat_of_zero_le hb
  have e : (m : Int) * 2 ^ i = ((m * 2 ^ i : Nat) : Int) := by simp
  have hb3 : n < 2 ^ i := by exact_mod_cast hb2
  have ha3 : m * 2 ^ i < 2 ^ 64 := by
    rw [e] at ha2
    have : m * 2 ^ i < 18446744073709551616 := by omega
    simpa using this
  have hn : n < 2 ^ 64 := Nat.lt_of_lt_of_le hb3 (Nat.pow_le_pow_right (by omega) hi)
  rw [e, (bits_nat .u64 64 (by decide) wraps_u64 (m * 2 ^ i) n ha3 hn).2]
  rw [show m * 2 ^ i = 2 ^ i * m from Nat.mul_comm _ _, ← Nat.two_pow_add_eq_or_of_lt hb3]
  simp

/-! ### how many bytes; the digits -/
/-- How many bytes a number has as a Var. -/
def sz (n : Int) : Int := if n < 128 then 1 else if n < 16384 then 2 else if n < 2097152 then 3 else if n < 268435456 then 4 else if n < 34359738368 then 5 else if n < 4398046511104 then 6 else if n < 562949953421312 then 7 else if n < 72057594037927936 then 8 else 9
/-- i bytes of seven bits each, all with 128 more, the lowest last. -/
def W : Int → Nat → List Int
  | _, 0 => []
  | n, i + 1 => W (n / 128) i ++ [n % 128 + 128]
/-- A number as a Var. -/
def vr (n : Int) : List Int := if sz n = 9 then W (n / 256) 8 ++ [n % 256] else W (n / 128) ((sz n).toNat - 1) ++ [n % 128]
theorem sz_range (n : Int) : 1 ≤ sz n ∧ sz n ≤ 9 := by unfold sz; omega
theorem sz_le (n m : Int) (h : n ≤ m) : sz n ≤ sz m := by unfold sz; omega
theorem sz_at (n : Int) (k : Nat) (h1 : 1 ≤ k) (h8 : k ≤ 8) (hl : 128 ^ (k - 1) ≤ n ∨ k = 1) (hu : n < 128 ^ k) : sz n = k := by
  unfold sz
  rcases (by omega : k = 1 ∨ k = 2 ∨ k = 3 ∨ k = 4 ∨ k = 5 ∨ k = 6 ∨ k = 7 ∨ k = 8) with rfl | rfl | rfl | rfl | rfl | rfl | rfl | rfl <;> simp at hl hu ⊢ <;> omega
theorem sz_top (n : Int) (hl : 128 ^ 8 ≤ n) : sz n = 9 := by unfold sz; omega
theorem shr7 (n : Int) (k : Nat) (h : k ≤ 8) : n / 2 ^ (7 * (k : Int)).toNat = n / 128 ^ k := by
  rw [show (7 * (k : Int)).toNat = 7 * k by omega, Int.pow_mul]
  rfl
theorem W_length (i : Nat) : ∀ n : Int, (W n i).length = i := by
  induction i with
  | zero => intro n; rfl
  | succ i ih => intro n; simp [W, ih]
theorem W_range (i : Nat) : ∀ n : Int, ∀ x ∈ W n i, 128 ≤ x ∧ x < 256 := by
  induction i with
  | zero => intro n x hx; simp [W] at hx
  | succ i ih =>
    intro n x hx
    simp only [W, List.mem_append, List.mem_singleton] at hx
    rcases hx with hx | rfl
    · exact ih _ x hx
    · omega
theorem vr_length (n : Int) : (vr n).length = (sz n).toNat := by
  have := sz_range n
  unfold vr
  split <;> simp [W_length] <;> omega
theorem vr_length_int (n : Int) : ((vr n).length : Int) = sz n := by
  have := sz_range n
  have := vr_length n
  omega
theorem vr_range (n : Int) : ∀ x ∈ vr n, 0 ≤ x ∧ x < 256 := by
  intro x hx
  unfold vr at hx
  split at hx <;> simp only [List.mem_append, List.mem_singleton] at hx <;> rcases hx with hx | rfl
  · have := W_range _ _ x hx; omega
  · omega
  · have := W_range _ _ x hx; omega
  · omega
/-- The highest one ahead. -/
theorem W_head (i : Nat) : ∀ n : Int, W n (i + 1) = (n / 128 ^ i % 128 + 128) :: W n i := by
  induction i with
  | zero => intro n; simp [W]
  | succ i ih =>
    intro n
    have e : n / 128 / 128 ^ i = n / 128 ^ (i + 1) := by
      rw [Int.ediv_ediv_of_nonneg (by decide), Int.pow_succ, Int.mul_comm]
    rw [show W n (i + 1 + 1) = W (n / 128) (i + 1) ++ [n % 128 + 128] from rfl, ih, e]
    rfl
/-- The number of digits that stand one behind the other. -/
def V (l : List Int) : Int := l.foldl (fun a b => a * 128 + b % 128) 0
theorem V_snoc (l : List Int) (b : Int) : V (l ++ [b]) = V l * 128 + b % 128 := by simp [V, List.foldl_append]
theorem W_V (l : List Int) (h : ∀ x ∈ l, 128 ≤ x ∧ x < 256) : W (V l) l.length = l := by
  induction hl : l.length generalizing l with
  | zero => rw [List.eq_nil_of_length_eq_zero hl]; rfl
  | succ n ih =>
    obtain ⟨m, b, rfl⟩ : ∃ m b, l = m ++ [b] := by
      rcases List.eq_nil_or_concat l with e | ⟨m, b, e⟩
      · subst e; simp at hl
      · exact ⟨m, b, by simpa using e⟩
    have hm : m.length = n := by simp at hl; exact hl
    have hb := h b (by simp)
    have := ih m (fun x hx => h x (by simp [hx])) hm
    rw [V_snoc, W, show (V m * 128 + b % 128) / 128 = V m by omega, this, show (V m * 128 + b % 128) % 128 + 128 = b by omega]
theorem V_range (l : List Int) : 0 ≤ V l ∧ V l < 128 ^ l.length := by
  induction hl : l.length generalizing l with
  | zero => rw [List.eq_nil_of_length_eq_zero hl]; simp [V]
  | succ n ih =>
    obtain ⟨m, b, rfl⟩ : ∃ m b, l = m ++ [b] := by
      rcases List.eq_nil_or_concat l with e | ⟨m, b, e⟩
      · subst e; simp at hl
      · exact ⟨m, b, by simpa using e⟩
    have := ih m (by simp at hl; exact hl)
    rw [V_snoc, Int.pow_succ]
    omega

/-! ### the number that bytes begin with -/
/-- The loop of Take: the number so far, the place, what is left. -/
def tk (acc : Int) (i : Int) : List Int → Int × Int
  | [] => (0, 0)
  | c :: cs =>
    if i = 8 then (if sz (acc * 256 + c) = 9 then (acc * 256 + c, 9) else (0, 0))
    else if c < 128 then (if sz (acc * 128 + c % 128) = i + 1 then (acc * 128 + c % 128, i + 1) else (0, 0))
    else tk (acc * 128 + c % 128) (i + 1) cs
/-- What Take tells. -/
def take (l : List Int) : Int × Int := tk 0 0 l
/-- What is told of the bytes ahead (m, all with 128 more) and of those that are left: nothing, or a number whose Var stands there. -/
theorem tk_tells (l : List Int) : ∀ m : List Int, (∀ x ∈ m, 128 ≤ x ∧ x < 256) → (∀ x ∈ l, 0 ≤ x ∧ x < 256) → m.length ≤ 8 →
    tk (V m) m.length l = (0, 0) ∨ ∃ n, ∃ k : Nat, tk (V m) m.length l = (n, (m.length : Int) + k) ∧ 1 ≤ k ∧ k ≤ l.length ∧ 0 ≤ n ∧ n < 18446744073709551616 ∧ vr n = m ++ l.take k ∧ sz n = (m.length : Int) + k := by
  induction l with
  | nil => intro m _ _ _; exact .inl rfl
  | cons c cs ih =>
    intro m hm hl hlen
    have hc := hl c (by simp)
    have hV := V_range m
    have hW := W_V m hm
    simp only [tk]
    by_cases h8 : (m.length : Int) = 8
    · rw [if_pos h8]
      have h8' : m.length = 8 := by omega
      rw [h8'] at hV hW
      by_cases hs : sz (V m * 256 + c) = 9
      · rw [if_pos hs]
        refine .inr ⟨V m * 256 + c, 1, by rw [h8]; simp, by omega, by simp, by omega, by omega, ?_, by omega⟩
        unfold vr
        rw [if_pos hs, show (V m * 256 + c) / 256 = V m by omega, hW, show (V m * 256 + c) % 256 = c by omega]
        simp
      · rw [if_neg hs]; exact .inl rfl
    · rw [if_neg h8]
      have h7 : m.length ≤ 7 := by omega
      have hV2 : V m < 128 ^ 7 := Int.lt_of_lt_of_le hV.2 (by exact_mod_cast Nat.pow_le_pow_right (by omega) h7)
      by_cases ht : c < 128
      · rw [if_pos ht]
        by_cases hs : sz (V m * 128 + c % 128) = (m.length : Int) + 1
        · rw [if_pos hs]
          refine .inr ⟨V m * 128 + c % 128, 1, by simp, by omega, by simp, by omega, by omega, ?_, by omega⟩
          unfold vr
          rw [if_neg (by omega), hs, show ((m.length : Int) + 1).toNat - 1 = m.length by omega, show (V m * 128 + c % 128) / 128 = V m by omega, hW, show (V m * 128 + c % 128) % 128 = c by omega]
          simp
        · rw [if_neg hs]; exact .inl rfl
      · rw [if_neg ht]
        have := ih (m ++ [c]) (fun x hx => by
          simp only [List.mem_append, List.mem_singleton] at hx
          rcases hx with hx | rfl
          · exact hm x hx
          · omega) (fun x hx => hl x (by simp [hx])) (by simp; omega)
        rw [V_snoc] at this
        simp only [List.length_append, List.length_cons, List.length_nil, Nat.zero_add, Int.natCast_add, Int.cast_ofNat_Int] at this
        rcases this with h | ⟨n, k, h1, h2, h3, h4, h5, h6, h7⟩
        · exact .inl h
        · refine .inr ⟨n, k + 1, by rw [h1]; simp; omega, by omega, by simp; omega, h4, h5, ?_, by omega⟩
          rw [h6]; simp
theorem take_tells (l : List Int) (h : ∀ x ∈ l, 0 ≤ x ∧ x < 256) : take l = (0, 0) ∨ ∃ n, ∃ k : Nat, take l = (n, (k : Int)) ∧ 1 ≤ k ∧ k ≤ l.length ∧ 0 ≤ n ∧ n < 18446744073709551616 ∧ vr n = l.take k ∧ sz n = k := by
  rcases tk_tells l [] (by simp) h (by simp) with h | ⟨n, k, h1, h2, h3, h4, h5, h6, h7⟩
  · exact .inl h
  · exact .inr ⟨n, k, by have e : take l = tk (V []) 0 l := rfl; rw [e]; simpa using h1, h2, h3, h4, h5, by simpa using h6, by simpa using h7⟩

/-! ### numbers of so many bytes -/
/-- The number that bytes are, the greatest first. -/
def num (l : List Int) : Int := l.foldl (fun a b => a * 256 + b) 0
theorem num_snoc (l : List Int) (b : Int) : num (l ++ [b]) = num l * 256 + b := by simp [num, List.foldl_append]
theorem num_range (l : List Int) (h : ∀ x ∈ l, 0 ≤ x ∧ x < 256) : 0 ≤ num l ∧ num l < 256 ^ l.length := by
  induction hl : l.length generalizing l with
  | zero => rw [List.eq_nil_of_length_eq_zero hl]; simp [num]
  | succ n ih =>
    obtain ⟨m, b, rfl⟩ : ∃ m b, l = m ++ [b] := by
      rcases List.eq_nil_or_concat l with e | ⟨m, b, e⟩
      · subst e; simp at hl
      · exact ⟨m, b, by simpa using e⟩
    have := ih m (fun x hx => h x (by simp [hx])) (by simp at hl; exact hl)
    have hb := h b (by simp)
    rw [num_snoc, Int.pow_succ]
    omega
theorem num_lt (l : List Int) (h : ∀ x ∈ l, 0 ≤ x ∧ x < 256) (hl : l.length ≤ 7) : 0 ≤ num l ∧ num l < 72057594037927936 := by
  have h1 := num_range l h
  have h2 : (256 : Int) ^ l.length ≤ 72057594037927936 := by
    generalize l.length = k at hl
    rcases (by omega : k = 0 ∨ k = 1 ∨ k = 2 ∨ k = 3 ∨ k = 4 ∨ k = 5 ∨ k = 6 ∨ k = 7) with rfl | rfl | rfl | rfl | rfl | rfl | rfl | rfl <;> decide
  omega
/-- The first bytes, in the order in which they count. -/
def head (l : List Int) (size : Nat) (little : Bool) : List Int := if little then (l.take size).reverse else l.take size
theorem head_length (l : List Int) (size : Nat) (little : Bool) (h : size ≤ l.length) : (head l size little).length = size := by
  unfold head; split <;> simp <;> omega
theorem head_range (l : List Int) (size : Nat) (little : Bool) (h : ∀ x ∈ l, 0 ≤ x ∧ x < 256) : ∀ x ∈ head l size little, 0 ≤ x ∧ x < 256 := by
  intro x hx
  unfold head at hx
  split at hx
  · exact h x (List.mem_of_mem_take (List.mem_reverse.1 hx))
  · exact h x (List.mem_of_mem_take hx)
theorem getD_mem (l : List Int) (k : Nat) (hk : k < l.length) : l.getD k 0 ∈ l := by
  rw [List.getD_eq_getElem?_getD, List.getElem?_eq_getElem hk]
  exact List.getElem_mem hk
theorem take_snoc (l : List Int) (k : Nat) (hk : k < l.length) : l.take (k + 1) = l.take k ++ [l.getD k 0] := by
  rw [List.take_succ_eq_append_getElem hk, List.getD_eq_getElem?_getD, List.getElem?_eq_getElem hk]; rfl
theorem head_get (l : List Int) (size : Nat) (little : Bool) (k : Nat) (h : size ≤ l.length) (hk : k < size) : (head l size little).getD k 0 = if little then l.getD (size - 1 - k) 0 else l.getD k 0 := by
  cases little
  · simp [head, List.getElem?_take, hk]
  · have h1 : k < (l.take size).length := by rw [List.length_take]; omega
    simp only [head, if_true, List.getD_eq_getElem?_getD]
    rw [List.getElem?_reverse h1, List.length_take, Nat.min_eq_left h, List.getElem?_take, if_pos (by omega)]
/-- Get. -/
def getV (l : List Int) (size : Int) (little : Bool) : Int × Bool :=
  if size < 1 ∨ size > 8 ∨ (l.length : Int) < size then (0, false) else (num (head l size.toNat little), true)
/-- A number's k lowest bytes, the lowest first. -/
def le (n : Int) : Nat → List Int
  | 0 => []
  | k + 1 => le n k ++ [n / 256 ^ k % 256]
/-- The greatest first. -/
def be (n : Int) : Nat → List Int
  | 0 => []
  | k + 1 => (n / 256 ^ k % 256) :: be n k
theorem le_reverse (n : Int) (k : Nat) : (le n k).reverse = be n k := by
  induction k with
  | zero => rfl
  | succ k ih => simp [le, be, ih]
theorem le_length (n : Int) (k : Nat) : (le n k).length = k := by
  induction k with
  | zero => rfl
  | succ k ih => simp [le, ih]
theorem be_length (n : Int) (k : Nat) : (be n k).length = k := by rw [← le_reverse]; simp [le_length]
theorem le_range (n : Int) (k : Nat) : ∀ x ∈ le n k, 0 ≤ x ∧ x < 256 := by
  induction k with
  | zero => intro x hx; simp [le] at hx
  | succ k ih =>
    intro x hx
    simp only [le, List.mem_append, List.mem_singleton] at hx
    rcases hx with hx | rfl
    · exact ih x hx
    · omega
/-- How many bytes are put. -/
def many (size : Int) : Nat := (if size > 8 then 8 else size).toNat
/-- What is put. -/
def putL (n size : Int) (little : Bool) : List Int := if little then le n (many size) else be n (many size)
theorem many_le (size : Int) : many size ≤ 8 := by unfold many; split <;> omega
theorem putL_length (n size : Int) (little : Bool) : (putL n size little).length = many size := by unfold putL; split <;> simp [le_length, be_length]
theorem putL_range (n size : Int) (little : Bool) : ∀ x ∈ putL n size little, 0 ≤ x ∧ x < 256 := by
  intro x hx
  unfold putL at hx
  split at hx
  · exact le_range n _ x hx
  · rw [← le_reverse] at hx
    exact le_range n _ x (List.mem_reverse.1 hx)
theorem shr8 (n : Int) (k : Nat) : n / 2 ^ (8 * k) = n / 256 ^ k := by rw [Int.pow_mul]; rfl

/-! ### bytes as strings; how they stand -/
/-- A byte. -/
def B (l : List Int) : List UInt8 := l.map fun n => UInt8.ofNat n.toNat
theorem B_append (l m : List Int) : B (l ++ m) = B l ++ B m := by simp [B]
theorem str_B (l : List Int) : (strOfNums l).toList = B l := by rw [ByteArray.toList_eq]; rfl
theorem str_size (l : List Int) : (strOfNums l).size = l.length := strOfNums_size l
theorem byte_inj (a b : Int) (ha : 0 ≤ a ∧ a < 256) (hb : 0 ≤ b ∧ b < 256) (h : UInt8.ofNat a.toNat = UInt8.ofNat b.toNat) : a = b := by
  have := congrArg UInt8.toNat h
  simp only [UInt8.toNat_ofNat'] at this
  omega
theorem byte_lt (a b : Int) (ha : 0 ≤ a ∧ a < 256) (hb : 0 ≤ b ∧ b < 256) : UInt8.ofNat a.toNat < UInt8.ofNat b.toNat ↔ a < b := by
  rw [UInt8.lt_iff_toNat_lt]
  simp only [UInt8.toNat_ofNat']
  omega
theorem B_inj (l : List Int) : ∀ m : List Int, (∀ x ∈ l, 0 ≤ x ∧ x < 256) → (∀ x ∈ m, 0 ≤ x ∧ x < 256) → (B l = B m ↔ l = m) := by
  induction l with
  | nil => intro m _ _; cases m <;> simp [B]
  | cons a l ih =>
    intro m hl hm
    cases m with
    | nil => simp [B]
    | cons b m =>
      have := ih m (fun x hx => hl x (by simp [hx])) (fun x hx => hm x (by simp [hx]))
      simp only [B, List.map_cons, List.cons.injEq] at this ⊢
      rw [this]
      constructor
      · rintro ⟨h1, h2⟩; exact ⟨byte_inj a b (hl a (by simp)) (hm b (by simp)) h1, h2⟩
      · rintro ⟨h1, h2⟩; exact ⟨by rw [h1], h2⟩
theorem str_eq (l m : List Int) (hl : ∀ x ∈ l, 0 ≤ x ∧ x < 256) (hm : ∀ x ∈ m, 0 ≤ x ∧ x < 256) : (strOfNums l).toList = (strOfNums m).toList ↔ l = m := by
  rw [str_B, str_B, B_inj l m hl hm]
theorem less_append (x : List UInt8) : ∀ y : List UInt8, x.length = y.length → ∀ a b : UInt8, Op.bytesLess (x ++ [a]) (y ++ [b]) = (Op.bytesLess x y || (x == y && decide (a < b))) := by
  induction x with
  | nil => intro y h a b; cases y with
    | nil => simp [Op.bytesLess]
    | cons => simp at h
  | cons c x ih =>
    intro y h a b
    cases y with
    | nil => simp at h
    | cons d y =>
      simp only [List.cons_append, Op.bytesLess, ih y (by simpa using h)]
      have e : (c == d) = decide (c = d) := by by_cases h2 : c = d <;> simp [h2]
      rw [e]
      by_cases h1 : c < d <;> by_cases h2 : c = d <;> simp [h1, h2]
theorem W_less (i : Nat) : ∀ n m : Int, 0 ≤ n → n < m → m < 128 ^ i → Op.bytesLess (B (W n i)) (B (W m i)) = true := by
  induction i with
  | zero => intro n m h0 h1 h2; simp at h2; omega
  | succ i ih =>
    intro n m h0 h1 h2
    rw [Int.pow_succ] at h2
    simp only [W, B_append]
    rw [show B [n % 128 + 128] = [UInt8.ofNat (n % 128 + 128).toNat] from rfl, show B [m % 128 + 128] = [UInt8.ofNat (m % 128 + 128).toNat] from rfl, less_append _ _ (by simp [B, W_length])]
    rcases Int.lt_or_le (n / 128) (m / 128) with h | h
    · rw [ih _ _ (by omega) h (by omega)]; rfl
    · have e : n / 128 = m / 128 := by omega
      rw [e, (byte_lt _ _ (by omega) (by omega)).2 (show n % 128 + 128 < m % 128 + 128 by omega) |> decide_eq_true]
      simp
theorem sz_pow (n : Int) (h : sz n ≠ 9) : n / 128 < 128 ^ ((sz n).toNat - 1) := by
  unfold sz at *
  repeat' split
  all_goals simp_all
  all_goals omega
theorem vr_less (n m : Int) (h0 : 0 ≤ n) (h : n < m) (h2 : m < 18446744073709551616) (he : sz n = sz m) : Op.bytesLess (B (vr n)) (B (vr m)) = true := by
  unfold vr
  rw [he]
  split
  · rw [B_append, B_append, show B [n % 256] = [UInt8.ofNat (n % 256).toNat] from rfl, show B [m % 256] = [UInt8.ofNat (m % 256).toNat] from rfl, less_append _ _ (by simp [B, W_length])]
    rcases Int.lt_or_le (n / 256) (m / 256) with h' | h'
    · rw [W_less _ _ _ (by omega) h' (by omega)]; rfl
    · have e : n / 256 = m / 256 := by omega
      rw [e, (byte_lt _ _ (by omega) (by omega)).2 (show n % 256 < m % 256 by omega) |> decide_eq_true]
      simp
  · rename_i h9
    have := sz_pow m h9
    rw [B_append, B_append, show B [n % 128] = [UInt8.ofNat (n % 128).toNat] from rfl, show B [m % 128] = [UInt8.ofNat (m % 128).toNat] from rfl, less_append _ _ (by simp [B, W_length])]
    rcases Int.lt_or_le (n / 128) (m / 128) with h' | h'
    · rw [W_less _ _ _ (by omega) h' this]; rfl
    · have e : n / 128 = m / 128 := by omega
      rw [e, (byte_lt _ _ (by omega) (by omega)).2 (show n % 128 < m % 128 by omega) |> decide_eq_true]
      simp
end Go.Proofs.Ytljcingmjemohaa.MOct
namespace Go.Proofs.Ytljcingmjemohaa.MOct
set_option linter.unusedVariables false
set_option linter.unusedSimpArgs false
theorem V_W (i : Nat) : ∀ n : Int, 0 ≤ n → n < 128 ^ i → V (W n i) = n := by
  induction i with
  | zero => intro n h0 h1; simp [W, V]; omega
  | succ i ih =>
    intro n h0 h1
    rw [W, V_snoc, ih (n / 128) (by omega) (by rw [Int.pow_succ] at h1; omega)]
    omega
theorem tk_skip (t : List Int) : ∀ m p : List Int, (∀ x ∈ m, 128 ≤ x ∧ x < 256) → p.length + m.length ≤ 8 → tk (V p) p.length (m ++ t) = tk (V (p ++ m)) ((p.length : Int) + m.length) t := by
  intro m
  induction m with
  | nil => intro p _ _; simp
  | cons c m ih =>
    intro p hm hl
    have hc := hm c (by simp)
    simp only [List.length_cons] at hl
    simp only [List.cons_append, tk]
    rw [if_neg (by omega), if_neg (by omega), ← V_snoc]
    have := ih (p ++ [c]) (fun x hx => hm x (by simp [hx])) (by simp; omega)
    simp only [List.length_append, List.length_cons, List.length_nil, List.append_assoc, List.cons_append, List.nil_append] at this
    rw [show ((p.length + (0 + 1) : Nat) : Int) = (p.length : Int) + 1 by omega] at this
    rw [this]
    simp only [List.length_cons]
    congr 1
    omega
theorem take_vr (n : Int) (rest : List Int) (h0 : 0 ≤ n) (h1 : n < 18446744073709551616) : take (vr n ++ rest) = (n, sz n) := by
  have hs := sz_range n
  unfold take vr
  by_cases h9 : sz n = 9
  · rw [if_pos h9, List.append_assoc]
    have := tk_skip ([n % 256] ++ rest) (W (n / 256) 8) [] (W_range 8 (n / 256)) (by rw [W_length]; simp)
    simp only [List.nil_append, List.length_nil, W_length] at this
    have e : tk 0 0 (W (n / 256) 8 ++ ([n % 256] ++ rest)) = tk (V []) ((0 : Nat) : Int) (W (n / 256) 8 ++ ([n % 256] ++ rest)) := rfl
    rw [e, this, V_W 8 (n / 256) (by omega) (by omega)]
    simp only [List.cons_append, List.nil_append, tk]
    rw [if_pos (by omega), show n / 256 * 256 + n % 256 = n by omega, if_pos h9, h9]
  · rw [if_neg h9, List.append_assoc]
    have hp := sz_pow n h9
    have := tk_skip ([n % 128] ++ rest) (W (n / 128) ((sz n).toNat - 1)) [] (W_range _ (n / 128)) (by rw [W_length]; simp; omega)
    simp only [List.nil_append, List.length_nil, W_length] at this
    have e : tk 0 0 (W (n / 128) ((sz n).toNat - 1) ++ ([n % 128] ++ rest)) = tk (V []) ((0 : Nat) : Int) (W (n / 128) ((sz n).toNat - 1) ++ ([n % 128] ++ rest)) := rfl
    rw [e, this, V_W _ (n / 128) (by omega) hp]
    simp only [List.cons_append, List.nil_append, tk]
    rw [if_neg (by omega), if_pos (by omega), show n / 128 * 128 + n % 128 % 128 = n by omega, if_pos (by omega)]
    congr 1
    omega
theorem num_from (l : List Int) : ∀ a : Int, l.foldl (fun a b => a * 256 + b) a = a * 256 ^ l.length + num l := by
  induction l with
  | nil => intro a; simp [num]
  | cons c l ih =>
    intro a
    simp only [num, List.foldl_cons, List.length_cons]
    rw [ih, ih (0 * 256 + c), Int.pow_succ]
    simp only [Int.zero_mul, Int.zero_add, Int.add_mul, Int.mul_assoc, Int.add_assoc]
    congr 1
    rw [Int.mul_comm 256]
theorem num_be (n : Int) (k : Nat) (h0 : 0 ≤ n) : num (be n k) = n % 256 ^ k := by
  induction k with
  | zero => simp [be, num]
  | succ k ih =>
    have e : num (be n (k + 1)) = n / 256 ^ k % 256 * 256 ^ k + num (be n k) := by
      have := num_from (be n k) (n / 256 ^ k % 256)
      rw [be_length] at this
      simpa [be, num] using this
    rw [e, ih, Int.pow_succ]
    have hp : (0 : Int) < 256 ^ k := Int.pow_pos (by omega)
    have h2 : n % (256 ^ k * 256) = n % 256 ^ k + 256 ^ k * (n / 256 ^ k % 256) := by
      rw [Int.emod_def, Int.emod_def n (256 ^ k), Int.emod_def (n / 256 ^ k) 256, Int.ediv_ediv_of_nonneg (by omega), Int.mul_sub, Int.mul_assoc]
      omega
    rw [h2, Int.mul_comm]
    omega
theorem getV_put (n : Int) (little : Bool) (rest : List Int) (h0 : 0 ≤ n) (h1 : n < 18446744073709551616) : getV (putL n 8 little ++ rest) 8 little = (n, true) := by
  have hm : many 8 = 8 := rfl
  have hl : (putL n 8 little).length = 8 := by rw [putL_length]; rfl
  unfold getV
  rw [if_neg (by rw [List.length_append, hl]; omega)]
  have e : head (putL n 8 little ++ rest) ((8 : Int).toNat) little = be n 8 := by
    show head (putL n 8 little ++ rest) 8 little = be n 8
    unfold head
    have e2 : (putL n 8 little ++ rest).take 8 = putL n 8 little := by rw [List.take_append_of_le_length (by omega), List.take_of_length_le (by omega)]
    rw [e2]
    unfold putL
    cases little
    · simp [hm]
    · simp only [if_true, hm]; exact le_reverse n 8
  rw [e, num_be n 8 h0, Int.emod_eq_of_lt h0 (by omega)]
end Go.Proofs.Ytljcingmjemohaa.MOct
namespace Go.Proofs.Ytljcingmjemohaa.MOct
open Go
set_option linter.unusedVariables false
set_option linter.unusedSimpArgs false
theorem xor0_u64 (x : Int) (h0 : 0 ≤ x) (h1 : x < 18446744073709551616) : Go.bits .xor .u64 x 0 = x := by
  obtain ⟨a, rfl⟩ := Int.eq_ofNat_of_zero_le h0
  show IntKind.u64.wrap ((BitVec.ofInt 64 (a : Int) ^^^ BitVec.ofInt 64 0).toNat : Int) = _
  have h2 : BitVec.ofInt 64 0 = 0#64 := by decide
  rw [h2, BitVec.xor_zero, ofInt_u64 a (by omega)]
  rw [IntKind.wrap_u64]
  omega
theorem xor1_u64 (x : Int) (h0 : 0 ≤ x) (h1 : x < 18446744073709551616) : Go.bits .xor .u64 x 18446744073709551615 = 18446744073709551615 - x := by
  obtain ⟨a, rfl⟩ := Int.eq_ofNat_of_zero_le h0
  show IntKind.u64.wrap ((BitVec.ofInt 64 (a : Int) ^^^ BitVec.ofInt 64 18446744073709551615).toNat : Int) = _
  have h2 : BitVec.ofInt 64 18446744073709551615 = BitVec.allOnes 64 := by decide
  rw [h2, BitVec.xor_allOnes, BitVec.toNat_not, ofInt_u64 a (by omega), IntKind.wrap_u64]
  omega
theorem xor0_i64 (x : Int) (h0 : 0 ≤ x) (h1 : x < 9223372036854775808) : Go.bits .xor .i64 x 0 = x := by
  obtain ⟨a, rfl⟩ := Int.eq_ofNat_of_zero_le h0
  show IntKind.i64.wrap ((BitVec.ofInt 64 (a : Int) ^^^ BitVec.ofInt 64 0).toNat : Int) = _
  have h2 : BitVec.ofInt 64 0 = 0#64 := by decide
  rw [h2, BitVec.xor_zero, ofInt_u64 a (by omega)]
  rw [IntKind.wrap_i64]
  omega
theorem xor1_i64 (x : Int) (h0 : 0 ≤ x) (h1 : x < 9223372036854775808) : Go.bits .xor .i64 x (-1) = -1 - x := by
  obtain ⟨a, rfl⟩ := Int.eq_ofNat_of_zero_le h0
  show IntKind.i64.wrap ((BitVec.ofInt 64 (a : Int) ^^^ BitVec.ofInt 64 (-1)).toNat : Int) = _
  have h2 : BitVec.ofInt 64 (-1) = BitVec.allOnes 64 := by decide
  rw [h2, BitVec.xor_allOnes, BitVec.toNat_not, ofInt_u64 a (by omega), IntKind.wrap_i64]
  omega
theorem and1_u64 (b : Int) (h0 : 0 ≤ b) (h : b < 18446744073709551616) : Go.bits .and .u64 b 1 = b % 2 :=
  bits_mask .u64 64 (by decide) wraps_u64 1 (by decide) b h0 h
/-- Zig and Zag. -/
def zig (n : Int) : Int := if 0 ≤ n then 2 * n else -2 * n - 1
def zag (z : Int) : Int := if z % 2 = 0 then z / 2 else -(z / 2) - 1
theorem zag_zig (n : Int) : zag (zig n) = n := by unfold zag zig; split <;> split <;> omega
theorem zig_zag (z : Int) (h : 0 ≤ z) : zig (zag z) = z := by unfold zag zig; split <;> split <;> omega
theorem zig_range (n : Int) (h0 : -9223372036854775808 ≤ n) (h1 : n < 9223372036854775808) : 0 ≤ zig n ∧ zig n < 18446744073709551616 := by unfold zig; split <;> omega
theorem zag_range (z : Int) (h0 : 0 ≤ z) (h1 : z < 18446744073709551616) : -9223372036854775808 ≤ zag z ∧ zag z < 9223372036854775808 := by unfold zag; split <;> omega
end Go.Proofs.Ytljcingmjemohaa.MOct
namespace Go.Proofs.Ytljcingmjemohaa.MOct
open Go
set_option linter.unusedVariables false
set_option linter.unusedSimpArgs false
/-- A cell: its key, child, length, local bytes, next page. -/
abbrev Cel := Int × Int × Int × List Int × Int
def isPageV (n : Int) : Bool := decide (1 ≤ n) && decide (n ≤ 4000)
def localV (n : Int) : Int := if n < 0 ∨ n > 20000 then 0 else if n > 96 then 32 else n
def spillsV (c : Cel) : Bool := decide ((c.2.2.2.1.length : Int) < c.2.2.1)
def insideV (c : Cel) : Bool := isPageV c.2.1 && decide (c.2.2.1 = 0) && decide (c.2.2.2.2 = 0) && ((c.2.2.2.1.length : Int) == 0)
def leafyV (c : Cel) : Bool := decide (c.2.1 = 0) && decide (0 ≤ c.2.2.1) && decide (c.2.2.1 ≤ 20000) && decide ((c.2.2.2.1.length : Int) = localV c.2.2.1) && (if spillsV c then isPageV c.2.2.2.2 else decide (c.2.2.2.2 = 0))
/-- May a cell stand in a node? -/
def mayV (leaf : Bool) (c : Cel) : Bool := if leaf then leafyV c else insideV c
/-- May cells stand one behind the other, behind a key? -/
def goodFrom (leaf : Bool) : Option Int → List Cel → Bool
  | _, [] => true
  | p, c :: t => mayV leaf c && (match p with | none => true | some k => decide (k < c.1)) && goodFrom leaf (some c.1) t
def goodV (leaf : Bool) (right : Int) (l : List Cel) : Bool := (leaf == decide (right = 0)) && (leaf || isPageV right) && goodFrom leaf none l
/-- A number's 64 bits. -/
def u64 (n : Int) : Int := n % 18446744073709551616
theorem u64_range (n : Int) : 0 ≤ u64 n ∧ u64 n < 18446744073709551616 := by unfold u64; omega
/-- A cell's size and bytes. -/
def csize (leaf : Bool) (c : Cel) : Int := if leaf then sz (zig c.1) + sz (u64 c.2.2.1) + c.2.2.2.1.length + (if spillsV c then 4 else 0) else 4 + sz (zig c.1)
def cbytes (leaf : Bool) (c : Cel) : List Int := if leaf then vr (zig c.1) ++ vr (u64 c.2.2.1) ++ c.2.2.2.1 ++ (if spillsV c then putL (u64 c.2.2.2.2) 4 false else []) else putL (u64 c.2.1) 4 false ++ vr (zig c.1)
theorem cbytes_length (leaf : Bool) (c : Cel) : ((cbytes leaf c).length : Int) = csize leaf c := by
  have h4 : ∀ n, (putL n 4 false).length = 4 := fun n => by rw [putL_length]; rfl
  have h1 := vr_length_int (zig c.1)
  have h2 := vr_length_int (u64 c.2.2.1)
  unfold cbytes csize
  cases leaf
  · simp only [Bool.false_eq_true, if_false, List.length_append, h4, Int.natCast_add, h1]
    rfl
  · simp only [if_true, List.length_append, Int.natCast_add, h1, h2]
    split <;> simp [h4]
def nsize (leaf : Bool) (l : List Cel) : Int := 7 + (l.map (csize leaf)).sum
def nbody (leaf : Bool) (right : Int) (l : List Cel) : List Int := [if leaf then 1 else 2] ++ putL l.length 2 false ++ putL (u64 right) 4 false ++ l.flatMap (cbytes leaf)
theorem nbody_length (leaf : Bool) (right : Int) (l : List Cel) : ((nbody leaf right l).length : Int) = nsize leaf l := by
  have h4 : ∀ n, (putL n 4 false).length = 4 := fun n => by rw [putL_length]; rfl
  have h2 : ∀ n, (putL n 2 false).length = 2 := fun n => by rw [putL_length]; rfl
  have hf : ((l.flatMap (cbytes leaf)).length : Int) = (l.map (csize leaf)).sum := by
    induction l with
    | nil => rfl
    | cons c t ih => rw [List.flatMap_cons, List.length_append, List.map_cons, List.sum_cons, ← ih, ← cbytes_length, Int.natCast_add]
  unfold nbody nsize
  rw [List.length_append, List.length_append, List.length_append, h4, h2, Int.natCast_add, hf]
  rfl
/-- A node's page. -/
def nbytes (leaf : Bool) (right : Int) (l : List Cel) : List Int := if goodV leaf right l = true ∧ nsize leaf l ≤ 512 then nbody leaf right l ++ List.replicate (512 - (nbody leaf right l).length) 0 else []
theorem nbytes_length (leaf : Bool) (right : Int) (l : List Cel) (h : goodV leaf right l = true ∧ nsize leaf l ≤ 512) : (nbytes leaf right l).length = 512 := by
  have := nbody_length leaf right l
  unfold nbytes
  rw [if_pos h, List.length_append, List.length_replicate]
  omega
/-- Where a key stands, or would. -/
def findV (l : List Cel) (key : Int) : Int × Bool := match l.findIdx? (fun c => decide (key ≤ c.1)) with
  | some i => (i, (l.getD i (0, 0, 0, [], 0)).1 == key)
  | none => (l.length, false)
end Go.Proofs.Ytljcingmjemohaa.MOct
namespace Go.Proofs.Ytljcingmjemohaa.MShape
set_option linter.unusedVariables false
set_option linter.unusedSimpArgs false

/-- A shape: its kind, its points, its parts. -/
inductive Sh where
  | mk (kind : Int) (pts : List (Int × Int)) (parts : List Sh)
def Sh.kind : Sh → Int | .mk k _ _ => k
def Sh.pts : Sh → List (Int × Int) | .mk _ p _ => p
def Sh.parts : Sh → List Sh | .mk _ _ p => p
/-- What is counted. -/
structure Cn where
  points : Int
  parts : Int
  depth : Int
theorem Cn.ext' {a b : Cn} (h0 : a.points = b.points) (h1 : a.parts = b.parts) (h2 : a.depth = b.depth) : a = b := by
  cases a; cases b; simp_all
def deeper (k k' d : Int) : Int := if k = 3 ∧ k' = 0 then d else d + 1
theorem deeper_le (k k' d : Int) : d ≤ deeper k k' d ∧ deeper k k' d ≤ d + 1 := by unfold deeper; split <;> omega
def mn (a b : Int) : Int := if a < b then a else b
def mx (a b : Int) : Int := if a < b then b else a
theorem mn_iff (a b : Int) : mn a b ≤ a ∧ mn a b ≤ b ∧ (mn a b = a ∨ mn a b = b) := by unfold mn; split <;> omega
theorem mx_iff (a b : Int) : a ≤ mx a b ∧ b ≤ mx a b ∧ (mx a b = a ∨ mx a b = b) := by unfold mx; split <;> omega
/-- Is there nothing more to count? -/
def full (c : Cn) : Bool := decide (4000 < c.points) && (decide (1000 < c.parts) && decide (16 < c.depth))
def goes (k : Int) (p : Sh) (d : Int) (c : Cn) : Bool := decide (deeper k p.kind d ≤ 17) && !full c
def own1 (n : Nat) (d : Int) (c : Cn) : Cn := ⟨mn (c.points + mn n 4001) 4001, mn (c.parts + 1) 1001, mx c.depth d⟩
mutual
def cnt : Sh → Int → Cn → Cn
  | .mk k pts ps, d, c => cnts k ps d (own1 pts.length d c)
def cnts (k : Int) : List Sh → Int → Cn → Cn
  | [], _, c => c
  | p :: ps, d, c => cnts k ps d (if goes k p d c = true then cnt p (deeper k p.kind d) c else c)
end
/-! without bounds -/
mutual
def Sh.flat : Sh → List (Int × Int)
  | .mk _ pts ps => pts ++ flats ps
def flats : List Sh → List (Int × Int)
  | [] => []
  | p :: ps => p.flat ++ flats ps
end
mutual
def Sh.nodes : Sh → Int
  | .mk _ _ ps => 1 + nodess ps
def nodess : List Sh → Int
  | [] => 0
  | p :: ps => p.nodes + nodess ps
end
mutual
def Sh.dep : Sh → Int → Int
  | .mk k _ ps, d => deps k ps d d
def deps (k : Int) : List Sh → Int → Int → Int
  | [], _, m => m
  | p :: ps, d, m => deps k ps d (mx m (p.dep (deeper k p.kind d)))
end
mutual
theorem nodes_pos : ∀ s : Sh, 1 ≤ s.nodes
  | .mk _ _ ps => by have := nodess_nn ps; unfold Sh.nodes; omega
theorem nodess_nn : ∀ l : List Sh, 0 ≤ nodess l
  | [] => by unfold nodess; omega
  | p :: ps => by have := nodes_pos p; have := nodess_nn ps; unfold nodess; omega
end
mutual
theorem dep_le : ∀ (s : Sh) (d : Int), d ≤ s.dep d
  | .mk k _ ps, d => by unfold Sh.dep; exact deps_le k ps d d
theorem deps_le (k : Int) : ∀ (l : List Sh) (d m : Int), m ≤ deps k l d m
  | [], d, m => by unfold deps; omega
  | p :: ps, d, m => by
    unfold deps
    have h1 := deps_le k ps d (mx m (p.dep (deeper k p.kind d)))
    have h2 := mx_iff m (p.dep (deeper k p.kind d))
    omega
end
def Cn.le (a b : Cn) : Prop := a.points ≤ b.points ∧ a.parts ≤ b.parts ∧ a.depth ≤ b.depth
/-- Not above what is counted. -/
def Cn.in_ (c : Cn) : Prop := 0 ≤ c.points ∧ c.points ≤ 4001 ∧ -1 ≤ c.parts ∧ c.parts ≤ 1001
theorem own1_le (n : Nat) (d : Int) (c : Cn) (h : c.in_) : c.le (own1 n d c) ∧ (own1 n d c).in_ ∧ d ≤ (own1 n d c).depth := by
  unfold own1 Cn.le Cn.in_ at *
  have h1 := mn_iff (c.points + mn n 4001) 4001
  have h2 := mn_iff n 4001
  have h3 := mn_iff (c.parts + 1) 1001
  have h4 := mx_iff c.depth d
  simp only
  omega
mutual
theorem cnt_le : ∀ (s : Sh) (d : Int) (c : Cn), c.in_ → c.le (cnt s d c) ∧ (cnt s d c).in_
  | .mk k pts ps, d, c, h => by
    unfold cnt
    obtain ⟨h1, h2, _⟩ := own1_le pts.length d c h
    obtain ⟨h3, h4⟩ := cnts_le k ps d _ h2
    exact ⟨⟨by have := h1.1; have := h3.1; omega, by have := h1.2.1; have := h3.2.1; omega, by have := h1.2.2; have := h3.2.2; omega⟩, h4⟩
theorem cnts_le (k : Int) : ∀ (l : List Sh) (d : Int) (c : Cn), c.in_ → c.le (cnts k l d c) ∧ (cnts k l d c).in_
  | [], d, c, h => by unfold cnts; exact ⟨⟨by omega, by omega, by omega⟩, h⟩
  | p :: ps, d, c, h => by
    unfold cnts
    split
    · obtain ⟨h1, h2⟩ := cnt_le p (deeper k p.kind d) c h
      obtain ⟨h3, h4⟩ := cnts_le k ps d _ h2
      exact ⟨⟨by have := h1.1; have := h3.1; omega, by have := h1.2.1; have := h3.2.1; omega, by have := h1.2.2; have := h3.2.2; omega⟩, h4⟩
    · exact cnts_le k ps d c h
end
def Cn.ok (c : Cn) : Prop := c.points ≤ 4000 ∧ c.parts ≤ 1000 ∧ c.depth ≤ 16
def Cn.add (c : Cn) (n q d : Int) : Cn := ⟨c.points + n, c.parts + q, mx c.depth d⟩
theorem mx_assoc (a b c : Int) : mx (mx a b) c = mx a (mx b c) := by
  have := mx_iff a b; have := mx_iff (mx a b) c; have := mx_iff b c; have := mx_iff a (mx b c); omega
theorem mx_le {a b : Int} (h : b ≤ a) : mx a b = a := by have := mx_iff a b; omega
theorem deps_mx (k : Int) : ∀ (l : List Sh) (d a m : Int), mx a (deps k l d m) = deps k l d (mx a m)
  | [], d, a, m => by unfold deps; rfl
  | p :: ps, d, a, m => by unfold deps; rw [deps_mx k ps, mx_assoc]
mutual
/-- Where the count is within the bounds it is exact. -/
theorem cnt_ok : ∀ (s : Sh) (d : Int) (c : Cn), c.in_ → (cnt s d c).ok → cnt s d c = c.add s.flat.length s.nodes (s.dep d)
  | .mk k pts ps, d, c, h, ho => by
    unfold cnt at ho ⊢
    obtain ⟨h1, h2, h3⟩ := own1_le pts.length d c h
    have h4 := (cnts_le k ps d _ h2).1
    have h5 := cnts_ok k ps d _ h2 h3 ho
    rw [h5]
    have ho2 : (own1 pts.length d c).ok := ⟨by have := h4.1; have := ho.1; omega, by have := h4.2.1; have := ho.2.1; omega, by have := h4.2.2; have := ho.2.2; omega⟩
    unfold own1 Cn.ok at ho2
    simp only at ho2
    unfold own1 Cn.add Sh.flat Sh.nodes Sh.dep
    have h0 := h.1
    have m1 := mn_iff (c.points + mn pts.length 4001) 4001
    have m2 := mn_iff pts.length 4001
    have m3 := mn_iff (c.parts + 1) 1001
    refine Cn.ext' ?_ ?_ ?_
    · simp only [List.length_append, Int.natCast_add]; omega
    · simp only; omega
    · simp only
      rw [deps_mx, deps_mx]
      congr 1
      rw [mx_assoc, mx_le (Int.le_refl d)]
theorem cnts_ok (k : Int) : ∀ (l : List Sh) (d : Int) (c : Cn), c.in_ → d ≤ c.depth → (cnts k l d c).ok → cnts k l d c = c.add (flats l).length (nodess l) (deps k l d d)
  | [], d, c, h, hd, ho => by
    unfold cnts Cn.add flats nodess deps
    exact Cn.ext' (by simp) (by simp) (mx_le hd).symm
  | p :: ps, d, c, h, hd, ho => by
    have hm := (cnts_le k (p :: ps) d c h).1
    have hg : goes k p d c = true := by
      unfold goes full
      have h1 := deeper_le k p.kind d
      have h2 := hm.1
      have h3 := hm.2.2
      have h4 := ho.1
      have h5 := ho.2.2
      simp only [Bool.and_eq_true, decide_eq_true_eq, Bool.not_eq_true', Bool.and_eq_false_iff, decide_eq_false_iff_not]
      omega
    unfold cnts at ho ⊢
    rw [if_pos hg] at ho ⊢
    obtain ⟨h1, h2⟩ := cnt_le p (deeper k p.kind d) c h
    have h4 := (cnts_le k ps d _ h2).1
    have ho2 : (cnt p (deeper k p.kind d) c).ok := ⟨by have := h4.1; have := ho.1; omega, by have := h4.2.1; have := ho.2.1; omega, by have := h4.2.2; have := ho.2.2; omega⟩
    have h6 := cnt_ok p _ c h ho2
    rw [cnts_ok k ps d _ h2 (by have := h1.2.2; omega) ho, h6]
    unfold Cn.add
    refine Cn.ext' ?_ ?_ ?_
    · simp only [flats, List.length_append, Int.natCast_add]; omega
    · simp only [nodess]; omega
    · simp only
      rw [deps.eq_2, mx_assoc, deps_mx, deps_mx, deps_mx]
      congr 1
      have a1 := mx_iff d (p.dep (deeper k p.kind d)); have a2 := mx_iff (p.dep (deeper k p.kind d)) d
      have a3 := dep_le p (deeper k p.kind d); have a4 := deeper_le k p.kind d
      have a5 := mx_iff c.depth (mx (p.dep (deeper k p.kind d)) d)
      have a6 := mx_iff c.depth (mx d (p.dep (deeper k p.kind d)))
      omega
end
mutual
/-- Where the exact count is near the bounds the count is exact. -/
theorem cnt_near : ∀ (s : Sh) (d : Int) (c : Cn), c.in_ → c.points + s.flat.length ≤ 4000 → c.parts + s.nodes ≤ 1001 → s.dep d ≤ 17 → cnt s d c = c.add s.flat.length s.nodes (s.dep d)
  | .mk k pts ps, d, c, h, hp, hq, hd => by
    unfold Sh.flat at hp; unfold Sh.nodes at hq; unfold Sh.dep at hd
    rw [List.length_append, Int.natCast_add] at hp
    have hn := nodess_nn ps
    obtain ⟨h1, h2, h3⟩ := own1_le pts.length d c h
    have m1 := mn_iff (c.points + mn pts.length 4001) 4001
    have m2 := mn_iff pts.length 4001
    have m3 := mn_iff (c.parts + 1) 1001
    have h0 := h.1
    have e : own1 pts.length d c = c.add pts.length 1 d := by
      unfold own1 Cn.add
      refine Cn.ext' ?_ ?_ rfl
      · simp only; omega
      · simp only; omega
    unfold cnt
    rw [e] at h2 h3 ⊢
    rw [cnts_near k ps d _ h2 h3 (by unfold Cn.add; simp only; omega) (by unfold Cn.add; simp only; omega) hd]
    unfold Cn.add Sh.flat Sh.nodes Sh.dep
    refine Cn.ext' ?_ ?_ ?_
    · simp only [List.length_append, Int.natCast_add]; omega
    · simp only; omega
    · simp only
      rw [deps_mx, deps_mx]
      congr 1
      rw [mx_assoc, mx_le (Int.le_refl d)]
theorem cnts_near (k : Int) : ∀ (l : List Sh) (d : Int) (c : Cn), c.in_ → d ≤ c.depth → c.points + (flats l).length ≤ 4000 → c.parts + nodess l ≤ 1001 → deps k l d d ≤ 17 → cnts k l d c = c.add (flats l).length (nodess l) (deps k l d d)
  | [], d, c, h, hd, _, _, _ => by
    unfold cnts Cn.add flats nodess deps
    exact Cn.ext' (by simp) (by simp) (mx_le hd).symm
  | p :: ps, d, c, h, hd, hp, hq, hx => by
    unfold flats at hp; unfold nodess at hq; unfold deps at hx
    rw [List.length_append, Int.natCast_add] at hp
    have hn := nodess_nn ps
    have hn' := nodes_pos p
    have hx1 := deps_le k ps d (mx d (p.dep (deeper k p.kind d)))
    have hx2 := mx_iff d (p.dep (deeper k p.kind d))
    have hx3 := dep_le p (deeper k p.kind d)
    have hx4 := deeper_le k p.kind d
    have hg : goes k p d c = true := by
      unfold goes full
      simp only [Bool.and_eq_true, decide_eq_true_eq, Bool.not_eq_true', Bool.and_eq_false_iff, decide_eq_false_iff_not]
      omega
    unfold cnts
    rw [if_pos hg]
    have e := cnt_near p (deeper k p.kind d) c h (by omega) (by omega) (by omega)
    have h2 := (cnt_le p (deeper k p.kind d) c h)
    rw [e] at h2 ⊢
    have hl : deps k ps d d ≤ 17 := by
      have : mx (p.dep (deeper k p.kind d)) (deps k ps d d) = deps k ps d (mx (p.dep (deeper k p.kind d)) d) := deps_mx _ _ _ _ _
      have a1 : mx (p.dep (deeper k p.kind d)) d = mx d (p.dep (deeper k p.kind d)) := by
        have := mx_iff (p.dep (deeper k p.kind d)) d; have := mx_iff d (p.dep (deeper k p.kind d)); omega
      rw [a1] at this
      have := mx_iff (p.dep (deeper k p.kind d)) (deps k ps d d)
      omega
    rw [cnts_near k ps d _ h2.2 (by have := h2.1.2.2; omega) (by unfold Cn.add; simp only; omega) (by unfold Cn.add; simp only; omega) hl]
    unfold Cn.add
    refine Cn.ext' ?_ ?_ ?_
    · simp only [flats, List.length_append, Int.natCast_add]; omega
    · simp only [nodess]; omega
    · simp only
      rw [deps.eq_2, mx_assoc, deps_mx, deps_mx, deps_mx]
      congr 1
      have a1 := mx_iff d (p.dep (deeper k p.kind d)); have a2 := mx_iff (p.dep (deeper k p.kind d)) d
      have a5 := mx_iff c.depth (mx (p.dep (deeper k p.kind d)) d)
      have a6 := mx_iff c.depth (mx d (p.dep (deeper k p.kind d)))
      omega
end
def c0 : Cn := ⟨0, -1, 0⟩
theorem c0_in : c0.in_ := by unfold c0 Cn.in_; simp
def count (s : Sh) : Cn := cnt s 1 c0
/-- May a shape be gone over without a bound? -/
def light (s : Sh) : Bool := decide ((count s).points ≤ 4000) && (decide ((count s).parts ≤ 1000) && decide ((count s).depth ≤ 16))
/-- What a light shape has. -/
theorem light_is {s : Sh} (h : light s = true) : s.flat.length ≤ 4000 ∧ s.nodes ≤ 1001 ∧ s.dep 1 ≤ 16 ∧ count s = ⟨s.flat.length, s.nodes - 1, s.dep 1⟩ := by
  unfold light at h
  simp only [Bool.and_eq_true, decide_eq_true_eq] at h
  have ho : (count s).ok := h
  have e := cnt_ok s 1 c0 c0_in ho
  have hd := dep_le s 1
  have m := mx_iff 0 (s.dep 1)
  have e2 : count s = ⟨s.flat.length, s.nodes - 1, s.dep 1⟩ := by
    show cnt s 1 c0 = _
    rw [e]
    unfold Cn.add c0
    exact Cn.ext' (by simp) (by simp only; omega) (by simp only; omega)
  rw [e2] at h
  simp only at h
  exact ⟨by omega, by omega, by omega, e2⟩
end Go.Proofs.Ytljcingmjemohaa.MShape
namespace Go.Proofs.Ytljcingmjemohaa.MShape
set_option linter.unusedVariables false
set_option linter.unusedSimpArgs false

def isKind (k : Int) : Bool := decide (1 ≤ k) && decide (k ≤ 7)
/-- The kind of a kind's parts; -2: any; -1: none. -/
def partOf (k : Int) : Int := if k = 3 then 0 else if k = 4 then 1 else if k = 5 then 2 else if k = 6 then 3 else if k = 7 then -2 else -1
def ends (pts : List (Int × Int)) : Bool := (pts.getD 0 (0, 0)).1 == (pts.getD (pts.length - 1) (0, 0)).1 && (pts.getD 0 (0, 0)).2 == (pts.getD (pts.length - 1) (0, 0)).2
def own (k : Int) (pts : List (Int × Int)) : Bool :=
  if k = 0 then decide (4 ≤ pts.length) && ends pts else if k = 1 then decide (pts.length ≤ 1) else if k = 2 then !decide (pts.length = 1) else isKind k && decide (pts.length = 0)
def fits (k k' : Int) : Bool := if k = 0 then false else if partOf k = -2 then isKind k' else k' == partOf k
mutual
def right : Sh → Bool
  | .mk k pts ps => own k pts && rights k ps
def rights (k : Int) : List Sh → Bool
  | [] => true
  | p :: ps => (fits k p.kind && right p) && rights k ps
end
def nowhere (p : Int × Int) : Bool := p.1 == -9223372036854775808 || p.2 == -9223372036854775808
def check (s : Sh) : Int :=
  if 16 < (count s).depth then 10 else if 4000 < (count s).points ∨ 1000 < (count s).parts then 12 else if (isKind s.kind && right s) = false then 9 else if s.flat.any nowhere = true then 11 else 0
theorem mx_succ (a b : Int) : mx (a + 1) (b + 1) = mx a b + 1 := by have := mx_iff a b; have := mx_iff (a + 1) (b + 1); omega
theorem deeper_succ (k k' d : Int) : deeper k k' (d + 1) = deeper k k' d + 1 := by unfold deeper; split <;> omega
mutual
theorem dep_succ : ∀ (s : Sh) (d : Int), s.dep (d + 1) = s.dep d + 1
  | .mk k _ ps, d => by unfold Sh.dep; exact deps_succ k ps d d
theorem deps_succ (k : Int) : ∀ (l : List Sh) (d m : Int), deps k l (d + 1) (m + 1) = deps k l d m + 1
  | [], d, m => by unfold deps; rfl
  | p :: ps, d, m => by unfold deps; rw [deeper_succ, dep_succ p, mx_succ, deps_succ k ps]
end
/-- A collection around a shape. -/
def wrap (s : Sh) : Sh := .mk 7 [] [s]
theorem wrap_flat (s : Sh) : (wrap s).flat = s.flat := by show [] ++ (s.flat ++ []) = s.flat; simp
theorem wrap_nodes (s : Sh) : (wrap s).nodes = s.nodes + 1 := by show 1 + (s.nodes + 0) = s.nodes + 1; omega
theorem wrap_dep (s : Sh) : (wrap s).dep 1 = s.dep 1 + 1 := by
  show mx 1 (s.dep (deeper 7 s.kind 1)) = s.dep 1 + 1
  have h : deeper 7 s.kind 1 = 1 + 1 := by unfold deeper; rw [if_neg (by omega)]
  rw [h, dep_succ]
  have := dep_le s 1
  have := mx_iff 1 (s.dep 1 + 1)
  omega
theorem wrap_count {s : Sh} (h : light s = true) : count (wrap s) = ⟨(count s).points, (count s).parts + 1, (count s).depth + 1⟩ := by
  obtain ⟨h1, h2, h3, h4⟩ := light_is h
  have hn := nodes_pos s
  have hd := dep_le s 1
  have e := cnt_near (wrap s) 1 c0 c0_in (by rw [wrap_flat]; unfold c0; simp only; omega) (by rw [wrap_nodes]; unfold c0; simp only; omega) (by rw [wrap_dep]; omega)
  show cnt (wrap s) 1 c0 = _
  rw [e, h4, wrap_flat, wrap_nodes, wrap_dep]
  unfold Cn.add c0
  have m := mx_iff 0 (s.dep 1 + 1)
  exact Cn.ext' (by simp) (by simp only; omega) (by simp only; omega)
theorem wrap_right (s : Sh) : (isKind (wrap s).kind && right (wrap s)) = (isKind s.kind && right s) := by
  have h1 : isKind (wrap s).kind = true := rfl
  have h2 : right (wrap s) = ((fits 7 s.kind && right s) && true) := rfl
  have h3 : fits 7 s.kind = isKind s.kind := rfl
  rw [h1, h2, h3]; simp
theorem wrap_deep {s : Sh} (h : light s = true) (hd : (count s).depth = 16) : check (wrap s) = 10 := by
  unfold check; rw [wrap_count h, if_pos (by simp only; omega)]
theorem wrap_long {s : Sh} (h : light s = true) (hd : (count s).depth ≠ 16) (hp : (count s).parts = 1000) : check (wrap s) = 12 := by
  have hl : (count s).depth ≤ 16 := by unfold light at h; simp only [Bool.and_eq_true, decide_eq_true_eq] at h; exact h.2.2
  unfold check; rw [wrap_count h, if_neg (by simp only; omega), if_pos (by simp only; omega)]
theorem wrap_same {s : Sh} (h : light s = true) (hd : (count s).depth ≠ 16) (hp : (count s).parts ≠ 1000) : check (wrap s) = check s := by
  have hl : (count s).points ≤ 4000 ∧ (count s).parts ≤ 1000 ∧ (count s).depth ≤ 16 := by unfold light at h; simpa only [Bool.and_eq_true, decide_eq_true_eq] using h
  unfold check
  rw [wrap_count h, wrap_right, wrap_flat]
  rw [if_neg (by simp only; omega), if_neg (by simp only; omega), if_neg (c := 16 < (count s).depth) (by omega), if_neg (c := 4000 < (count s).points ∨ 1000 < (count s).parts) (by omega)]
/-! alike -/
def eqPts : List (Int × Int) → List (Int × Int) → Bool
  | [], [] => true
  | a :: l, b :: m => (a.1 == b.1 && a.2 == b.2) && eqPts l m
  | _, _ => false
mutual
def eqS : Sh → Sh → Bool
  | .mk k p ps, .mk k' p' ps' => k == k' && (eqPts p p' && eqsS ps ps')
def eqsS : List Sh → List Sh → Bool
  | [], [] => true
  | a :: l, b :: m => eqS a b && eqsS l m
  | _, _ => false
end
theorem eqPts_iff : ∀ l m, eqPts l m = true ↔ l = m
  | [], [] => by simp [eqPts]
  | [], b :: m => by simp [eqPts]
  | a :: l, [] => by simp [eqPts]
  | (a1, a2) :: l, (b1, b2) :: m => by
    unfold eqPts
    simp only [Bool.and_eq_true, beq_iff_eq, eqPts_iff l m, List.cons.injEq, Prod.mk.injEq]
mutual
theorem eqS_refl : ∀ s : Sh, eqS s s = true
  | .mk k p ps => by unfold eqS; rw [(eqPts_iff p p).2 rfl, eqsS_refl ps]; simp
theorem eqsS_refl : ∀ l : List Sh, eqsS l l = true
  | [] => by unfold eqsS; rfl
  | a :: l => by unfold eqsS; rw [eqS_refl a, eqsS_refl l]; rfl
end
theorem eqPts_len {l m : List (Int × Int)} (h : l.length ≠ m.length) : eqPts l m = false := by
  cases h' : eqPts l m
  · rfl
  · exact absurd (congrArg List.length ((eqPts_iff l m).1 h')) h
theorem eqsS_len : ∀ {l m : List Sh}, l.length ≠ m.length → eqsS l m = false
  | [], [], h => by simp at h
  | [], _ :: _, _ => by simp [eqsS]
  | _ :: _, [], _ => by simp [eqsS]
  | a :: l, b :: m, h => by unfold eqsS; rw [eqsS_len (by simpa using h)]; simp
end Go.Proofs.Ytljcingmjemohaa.MShape
