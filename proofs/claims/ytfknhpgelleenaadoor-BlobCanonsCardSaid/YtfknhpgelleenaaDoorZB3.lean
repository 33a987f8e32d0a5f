/- What a claim leans on, part 3, cut by a program out of the texts KM. -/
import Derived.Laws.BitsAllLaws
import Derived.Laws.BitsLemmas
import Derived.Laws.Bits64
import Derived.Laws.Bits64b
import Derived.RowKit
import Derived.Lib.Bytes
import Derived.Laws.BytesArg
import Derived.Laws.DeepNot64
import Derived.Test.YtfknhpgelleenaaDoorZB2
section
namespace Go.Proofs.YtfknhpgelleenaaDoor.MOct
open Go Go.RowKit Go.Proofs.YtfknhpgelleenaaDoorW.PrintWords Go.Proofs.YtfknhpgelleenaaDoorW.PrintMore
set_option linter.unusedVariables false
set_option linter.unusedSimpArgs false
theorem wraps_u64 (n : Int) (h₀ : 0 ≤ n) (h₁ : n < 2 ^ 64) : IntKind.u64.wrap n = n := by rw [IntKind.wrap_u64]; omega
theorem or_u64 (a b : Int) (i : Nat) (hi : i ≤ 64) (ha : 0 ≤ a) (ha2 : a * 2 ^ i < 18446744073709551616) (hb : 0 ≤ b) (hb2 : b < 2 ^ i) :
    Go.bits .or .u64 (a * 2 ^ i) b = a * 2 ^ i + b := by
  obtain ⟨m, rfl⟩ := Int.eq_ofNat_of_zero_le ha
  obtain ⟨n, rfl⟩ := Int.eq_ofNat_of_zero_le hb
  have e : (m : Int) * 2 ^ i = ((m * 2 ^ i : Nat) : Int) := by simp
  have hb3 : n < 2 ^ i := by exact_mod_cast hb2
  have ha3 : m * 2 ^ i < 2 ^ 64 := by
    rw [e] at ha2
    have : m * 2 ^ i < 18446744073709551616 := by omega
    simpa using this
  have hn : n < 2 ^ 64 := Nat.lt_of_lt_of_le hb3 (Nat.pow_le_pow_right (by omega) hi)
  rw [e, (bits_nat .u64 64 (by decide) wraps_u64 (m * 2 ^ i) n ha3 hn).2]
  rw [show m * 2 ^ i = 2 ^ i * m from Nat.mul_comm _ _, ← Nat.two_pow_add_eq_or_of_lt hb3]
  simp
/-- How many bytes a number has as a Var. -/
def sz (n : Int) : Int := if n < 128 then 1 else if n < 16384 then 2 else if n < 2097152 then 3 else if n < 268435456 then 4 else if n < 34359738368 then 5 else if n < 4398046511104 then 6 else if n < 562949953421312 then 7 else if n < 72057594037927936 then 8 else 9
/-- i bytes of seven bits each, all with 128 more, the lowest last. -/
def W : Int → Nat → List Int
  | _, 0 => []
  | n, i + 1 => W (n / 128) i ++ [n % 128 + 128]
theorem W_range (i : Nat) : ∀ n : Int, ∀ x ∈ W n i, 128 ≤ x ∧ x < 256 := by
  induction i with
  | zero => intro n x hx; simp [W] at hx
  | succ i ih =>
    intro n x hx
    simp only [W, List.mem_append, List.mem_singleton] at hx
    rcases hx with hx | rfl
    · exact ih _ x hx
    · omega
/-- The number of digits that stand one behind the other. -/
def V (l : List Int) : Int := l.foldl (fun a b => a * 128 + b % 128) 0
/-- The loop of Take: the number so far, the place, what is left. -/
def tk (acc : Int) (i : Int) : List Int → Int × Int
  | [] => (0, 0)
  | c :: cs =>
    if i = 8 then (if sz (acc * 256 + c) = 9 then (acc * 256 + c, 9) else (0, 0))
    else if c < 128 then (if sz (acc * 128 + c % 128) = i + 1 then (acc * 128 + c % 128, i + 1) else (0, 0))
    else tk (acc * 128 + c % 128) (i + 1) cs
/-- What Take tells. -/
def take (l : List Int) : Int × Int := tk 0 0 l
/-- The number that bytes are, the greatest first. -/
def num (l : List Int) : Int := l.foldl (fun a b => a * 256 + b) 0
theorem num_snoc (l : List Int) (b : Int) : num (l ++ [b]) = num l * 256 + b := by simp [num, List.foldl_append]
theorem num_range (l : List Int) (h : ∀ x ∈ l, 0 ≤ x ∧ x < 256) : 0 ≤ num l ∧ num l < 256 ^ l.length := by
  induction hl : l.length generalizing l with
  | zero => rw [List.eq_nil_of_length_eq_zero hl]; simp [num]
  | succ n ih =>
    obtain ⟨m, b, rfl⟩ : ∃ m b, l = m ++ [b] := by
      rcases List.eq_nil_or_concat l with e | ⟨m, b, e⟩
      · subst e; simp at hl
      · exact ⟨m, b, by simpa using e⟩
    have := ih m (fun x hx => h x (by simp [hx])) (by simp at hl; exact hl)
    have hb := h b (by simp)
    rw [num_snoc, Int.pow_succ]
    omega
theorem num_lt (l : List Int) (h : ∀ x ∈ l, 0 ≤ x ∧ x < 256) (hl : l.length ≤ 7) : 0 ≤ num l ∧ num l < 72057594037927936 := by
  have h1 := num_range l h
  have h2 : (256 : Int) ^ l.length ≤ 72057594037927936 := by
    generalize l.length = k at hl
    rcases (by omega : k = 0 ∨ k = 1 ∨ k = 2 ∨ k = 3 ∨ k = 4 ∨ k = 5 ∨ k = 6 ∨ k = 7) with rfl | rfl | rfl | rfl | rfl | rfl | rfl | rfl <;> decide
  omega
/-- The first bytes, in the order in which they count. -/
def head (l : List Int) (size : Nat) (little : Bool) : List Int := if little then (l.take size).reverse else l.take size
theorem head_length (l : List Int) (size : Nat) (little : Bool) (h : size ≤ l.length) : (head l size little).length = size := by
  unfold head; split <;> simp <;> omega
theorem head_range (l : List Int) (size : Nat) (little : Bool) (h : ∀ x ∈ l, 0 ≤ x ∧ x < 256) : ∀ x ∈ head l size little, 0 ≤ x ∧ x < 256 := by
  intro x hx
  unfold head at hx
  split at hx
  · exact h x (List.mem_of_mem_take (List.mem_reverse.1 hx))
  · exact h x (List.mem_of_mem_take hx)
theorem getD_mem (l : List Int) (k : Nat) (hk : k < l.length) : l.getD k 0 ∈ l := by
  rw [List.getD_eq_getElem?_getD, List.getElem?_eq_getElem hk]
  exact List.getElem_mem hk
theorem take_snoc (l : List Int) (k : Nat) (hk : k < l.length) : l.take (k + 1) = l.take k ++ [l.getD k 0] := by
  rw [List.take_succ_eq_append_getElem hk, List.getD_eq_getElem?_getD, List.getElem?_eq_getElem hk]; rfl
theorem head_get (l : List Int) (size : Nat) (little : Bool) (k : Nat) (h : size ≤ l.length) (hk : k < size) : (head l size little).getD k 0 = if little then l.getD (size - 1 - k) 0 else l.getD k 0 := by
  cases little
  · simp [head, List.getElem?_take, hk]
  · have h1 : k < (l.take size).length := by rw [List.length_take]; omega
    simp only [head, if_true, List.getD_eq_getElem?_getD]
    rw [List.getElem?_reverse h1, List.length_take, Nat.min_eq_left h, List.getElem?_take, if_pos (by omega)]
/-- Get. -/
def getV (l : List Int) (size : Int) (little : Bool) : Int × Bool :=
  if size < 1 ∨ size > 8 ∨ (l.length : Int) < size then (0, false) else (num (head l size.toNat little), true)
/-- A number's k lowest bytes, the lowest first. -/
def le (n : Int) : Nat → List Int
  | 0 => []
  | k + 1 => le n k ++ [n / 256 ^ k % 256]
/-- The greatest first. -/
def be (n : Int) : Nat → List Int
  | 0 => []
  | k + 1 => (n / 256 ^ k % 256) :: be n k
theorem le_reverse (n : Int) (k : Nat) : (le n k).reverse = be n k := by
  induction k with
  | zero => rfl
  | succ k ih => simp [le, be, ih]
theorem le_length (n : Int) (k : Nat) : (le n k).length = k := by
  induction k with
  | zero => rfl
  | succ k ih => simp [le, ih]
theorem be_length (n : Int) (k : Nat) : (be n k).length = k := by rw [← le_reverse]; simp [le_length]
theorem le_range (n : Int) (k : Nat) : ∀ x ∈ le n k, 0 ≤ x ∧ x < 256 := by
  induction k with
  | zero => intro x hx; simp [le] at hx
  | succ k ih =>
    intro x hx
    simp only [le, List.mem_append, List.mem_singleton] at hx
    rcases hx with hx | rfl
    · exact ih x hx
    · omega
/-- How many bytes are put. -/
def many (size : Int) : Nat := (if size > 8 then 8 else size).toNat
/-- What is put. -/
def putL (n size : Int) (little : Bool) : List Int := if little then le n (many size) else be n (many size)
theorem many_le (size : Int) : many size ≤ 8 := by unfold many; split <;> omega
theorem putL_length (n size : Int) (little : Bool) : (putL n size little).length = many size := by unfold putL; split <;> simp [le_length, be_length]
theorem putL_range (n size : Int) (little : Bool) : ∀ x ∈ putL n size little, 0 ≤ x ∧ x < 256 := by
  intro x hx
  unfold putL at hx
  split at hx
  · exact le_range n _ x hx
  · rw [← le_reverse] at hx
    exact le_range n _ x (List.mem_reverse.1 hx)
theorem shr8 (n : Int) (k : Nat) : n / 2 ^ (8 * k) = n / 256 ^ k := by rw [Int.pow_mul]; rfl
/-- A byte. -/
def B (l : List Int) : List UInt8 := l.map fun n => UInt8.ofNat n.toNat
theorem str_B (l : List Int) : (strOfNums l).toList = B l := by rw [ByteArray.toList_eq]; rfl
theorem byte_inj (a b : Int) (ha : 0 ≤ a ∧ a < 256) (hb : 0 ≤ b ∧ b < 256) (h : UInt8.ofNat a.toNat = UInt8.ofNat b.toNat) : a = b := by
  have := congrArg UInt8.toNat h
  simp only [UInt8.toNat_ofNat'] at this
  omega
theorem B_inj (l : List Int) : ∀ m : List Int, (∀ x ∈ l, 0 ≤ x ∧ x < 256) → (∀ x ∈ m, 0 ≤ x ∧ x < 256) → (B l = B m ↔ l = m) := by
  induction l with
  | nil => intro m _ _; cases m <;> simp [B]
  | cons a l ih =>
    intro m hl hm
    cases m with
    | nil => simp [B]
    | cons b m =>
      have := ih m (fun x hx => hl x (by simp [hx])) (fun x hx => hm x (by simp [hx]))
      simp only [B, List.map_cons, List.cons.injEq] at this ⊢
      rw [this]
      constructor
      · rintro ⟨h1, h2⟩; exact ⟨byte_inj a b (hl a (by simp)) (hm b (by simp)) h1, h2⟩
      · rintro ⟨h1, h2⟩; exact ⟨by rw [h1], h2⟩
theorem str_eq (l m : List Int) (hl : ∀ x ∈ l, 0 ≤ x ∧ x < 256) (hm : ∀ x ∈ m, 0 ≤ x ∧ x < 256) : (strOfNums l).toList = (strOfNums m).toList ↔ l = m := by
  rw [str_B, str_B, B_inj l m hl hm]
end Go.Proofs.YtfknhpgelleenaaDoor.MOct
namespace Go.Proofs.YtfknhpgelleenaaDoor.MOct
set_option linter.unusedVariables false
set_option linter.unusedSimpArgs false
theorem num_from (l : List Int) : ∀ a : Int, l.foldl (fun a b => a * 256 + b) a = a * 256 ^ l.length + num l := by
  induction l with
  | nil => intro a; simp [num]
  | cons c l ih =>
    intro a
    simp only [num, List.foldl_cons, List.length_cons]
    rw [ih, ih (0 * 256 + c), Int.pow_succ]
    simp only [Int.zero_mul, Int.zero_add, Int.add_mul, Int.mul_assoc, Int.add_assoc]
    congr 1
    rw [Int.mul_comm 256]
theorem num_be (n : Int) (k : Nat) (h0 : 0 ≤ n) : num (be n k) = n % 256 ^ k := by
  induction k with
  | zero => simp [be, num]
  | succ k ih =>
    have e : num (be n (k + 1)) = n / 256 ^ k % 256 * 256 ^ k + num (be n k) := by
      have := num_from (be n k) (n / 256 ^ k % 256)
      rw [be_length] at this
      simpa [be, num] using this
    rw [e, ih, Int.pow_succ]
    have hp : (0 : Int) < 256 ^ k := Int.pow_pos (by omega)
    have h2 : n % (256 ^ k * 256) = n % 256 ^ k + 256 ^ k * (n / 256 ^ k % 256) := by
      rw [Int.emod_def, Int.emod_def n (256 ^ k), Int.emod_def (n / 256 ^ k) 256, Int.ediv_ediv_of_nonneg (by omega), Int.mul_sub, Int.mul_assoc]
      omega
    rw [h2, Int.mul_comm]
    omega
theorem getV_put (n : Int) (little : Bool) (rest : List Int) (h0 : 0 ≤ n) (h1 : n < 18446744073709551616) : getV (putL n 8 little ++ rest) 8 little = (n, true) := by
  have hm : many 8 = 8 := rfl
  have hl : (putL n 8 little).length = 8 := by rw [putL_length]; rfl
  unfold getV
  rw [if_neg (by rw [List.length_append, hl]; omega)]
  have e : head (putL n 8 little ++ rest) ((8 : Int).toNat) little = be n 8 := by
    show head (putL n 8 little ++ rest) 8 little = be n 8
    unfold head
    have e2 : (putL n 8 little ++ rest).take 8 = putL n 8 little := by rw [List.take_append_of_le_length (by omega), List.take_of_length_le (by omega)]
    rw [e2]
    unfold putL
    cases little
    · simp [hm]
    · simp only [if_true, hm]; exact le_reverse n 8
  rw [e, num_be n 8 h0, Int.emod_eq_of_lt h0 (by omega)]
end Go.Proofs.YtfknhpgelleenaaDoor.MOct
namespace Go.Proofs.YtfknhpgelleenaaDoor.MOct
open Go
set_option linter.unusedVariables false
set_option linter.unusedSimpArgs false
/-- A number's 64 bits. -/
def u64 (n : Int) : Int := n % 18446744073709551616
end Go.Proofs.YtfknhpgelleenaaDoor.MOct
namespace Go.Proofs.YtfknhpgelleenaaDoor.MShape
set_option linter.unusedVariables false
set_option linter.unusedSimpArgs false
/-- A shape: its kind, its points, its parts. -/
inductive Sh where
  | mk (kind : Int) (pts : List (Int × Int)) (parts : List Sh)
def Sh.kind : Sh → Int | .mk k _ _ => k
def Sh.pts : Sh → List (Int × Int) | .mk _ p _ => p
def Sh.parts : Sh → List Sh | .mk _ _ p => p
/-- What is counted. -/
structure Cn where
  points : Int
  parts : Int
  depth : Int
theorem Cn.ext' {a b : Cn} (h0 : a.points = b.points) (h1 : a.parts = b.parts) (h2 : a.depth = b.depth) : a = b := by
  cases a; cases b; simp_all
def deeper (k k' d : Int) : Int := if k = 3 ∧ k' = 0 then d else d + 1
theorem deeper_le (k k' d : Int) : d ≤ deeper k k' d ∧ deeper k k' d ≤ d + 1 := by unfold deeper; split <;> omega
def mn (a b : Int) : Int := if a < b then a else b
def mx (a b : Int) : Int := if a < b then b else a
theorem mn_iff (a b : Int) : mn a b ≤ a ∧ mn a b ≤ b ∧ (mn a b = a ∨ mn a b = b) := by unfold mn; split <;> omega
theorem mx_iff (a b : Int) : a ≤ mx a b ∧ b ≤ mx a b ∧ (mx a b = a ∨ mx a b = b) := by unfold mx; split <;> omega
/-- Is there nothing more to count? -/
def full (c : Cn) : Bool := decide (4000 < c.points) && (decide (1000 < c.parts) && decide (16 < c.depth))
def goes (k : Int) (p : Sh) (d : Int) (c : Cn) : Bool := decide (deeper k p.kind d ≤ 17) && !full c
def own1 (n : Nat) (d : Int) (c : Cn) : Cn := ⟨mn (c.points + mn n 4001) 4001, mn (c.parts + 1) 1001, mx c.depth d⟩
mutual
def cnt : Sh → Int → Cn → Cn
  | .mk k pts ps, d, c => cnts k ps d (own1 pts.length d c)
def cnts (k : Int) : List Sh → Int → Cn → Cn
  | [], _, c => c
  | p :: ps, d, c => cnts k ps d (if goes k p d c = true then cnt p (deeper k p.kind d) c else c)
end
mutual
def Sh.flat : Sh → List (Int × Int)
  | .mk _ pts ps => pts ++ flats ps
def flats : List Sh → List (Int × Int)
  | [] => []
  | p :: ps => p.flat ++ flats ps
end
mutual
def Sh.nodes : Sh → Int
  | .mk _ _ ps => 1 + nodess ps
def nodess : List Sh → Int
  | [] => 0
  | p :: ps => p.nodes + nodess ps
end
mutual
def Sh.dep : Sh → Int → Int
  | .mk k _ ps, d => deps k ps d d
def deps (k : Int) : List Sh → Int → Int → Int
  | [], _, m => m
  | p :: ps, d, m => deps k ps d (mx m (p.dep (deeper k p.kind d)))
end
mutual
theorem nodes_pos : ∀ s : Sh, 1 ≤ s.nodes
  | .mk _ _ ps => by have := nodess_nn ps; unfold Sh.nodes; omega
theorem nodess_nn : ∀ l : List Sh, 0 ≤ nodess l
  | [] => by unfold nodess; omega
  | p :: ps => by have := nodes_pos p; have := nodess_nn ps; unfold nodess; omega
end
mutual
theorem dep_le : ∀ (s : Sh) (d : Int), d ≤ s.dep d
  | .mk k _ ps, d => by unfold Sh.dep; exact deps_le k ps d d
theorem deps_le (k : Int) : ∀ (l : List Sh) (d m : Int), m ≤ deps k l d m
  | [], d, m => by unfold deps; omega
  | p :: ps, d, m => by
    unfold deps
    have h1 := deps_le k ps d (mx m (p.dep (deeper k p.kind d)))
    have h2 := mx_iff m (p.dep (deeper k p.kind d))
    omega
end
def Cn.le (a b : Cn) : Prop := a.points ≤ b.points ∧ a.parts ≤ b.parts ∧ a.depth ≤ b.depth
/-- Not above what is counted. -/
def Cn.in_ (c : Cn) : Prop := 0 ≤ c.points ∧ c.points ≤ 4001 ∧ -1 ≤ c.parts ∧ c.parts ≤ 1001
theorem own1_le (n : Nat) (d : Int) (c : Cn) (h : c.in_) : c.le (own1 n d c) ∧ (own1 n d c).in_ ∧ d ≤ (own1 n d c).depth := by
  unfold own1 Cn.le Cn.in_ at *
  have h1 := mn_iff (c.points + mn n 4001) 4001
  have h2 := mn_iff n 4001
  have h3 := mn_iff (c.parts + 1) 1001
  have h4 := mx_iff c.depth d
  simp only
  omega
mutual
theorem cnt_le : ∀ (s : Sh) (d : Int) (c : Cn), c.in_ → c.le (cnt s d c) ∧ (cnt s d c).in_
  | .mk k pts ps, d, c, h => by
    unfold cnt
    obtain ⟨h1, h2, _⟩ := own1_le pts.length d c h
    obtain ⟨h3, h4⟩ := cnts_le k ps d _ h2
    exact ⟨⟨by have := h1.1; have := h3.1; omega, by have := h1.2.1; have := h3.2.1; omega, by have := h1.2.2; have := h3.2.2; omega⟩, h4⟩
theorem cnts_le (k : Int) : ∀ (l : List Sh) (d : Int) (c : Cn), c.in_ → c.le (cnts k l d c) ∧ (cnts k l d c).in_
  | [], d, c, h => by unfold cnts; exact ⟨⟨by omega, by omega, by omega⟩, h⟩
  | p :: ps, d, c, h => by
    unfold cnts
    split
    · obtain ⟨h1, h2⟩ := cnt_le p (deeper k p.kind d) c h
      obtain ⟨h3, h4⟩ := cnts_le k ps d _ h2
      exact ⟨⟨by have := h1.1; have := h3.1; omega, by have := h1.2.1; have := h3.2.1; omega, by have := h1.2.2; have := h3.2.2; omega⟩, h4⟩
    · exact cnts_le k ps d c h
end
def Cn.ok (c : Cn) : Prop := c.points ≤ 4000 ∧ c.parts ≤ 1000 ∧ c.depth ≤ 16
def Cn.add (c : Cn) (n q d : Int) : Cn := ⟨c.points + n, c.parts + q, mx c.depth d⟩
theorem mx_assoc (a b c : Int) : mx (mx a b) c = mx a (mx b c) := by
  have := mx_iff a b; have := mx_iff (mx a b) c; have := mx_iff b c; have := mx_iff a (mx b c); omega
theorem mx_le {a b : Int} (h : b ≤ a) : mx a b = a := by have := mx_iff a b; omega
theorem deps_mx (k : Int) : ∀ (l : List Sh) (d a m : Int), mx a (deps k l d m) = deps k l d (mx a m)
  | [], d, a, m => by unfold deps; rfl
  | p :: ps, d, a, m => by unfold deps; rw [deps_mx k ps, mx_assoc]
mutual
/-- Where the count is within the bounds it is exact. -/
theorem cnt_ok : ∀ (s : Sh) (d : Int) (c : Cn), c.in_ → (cnt s d c).ok → cnt s d c = c.add s.flat.length s.nodes (s.dep d)
  | .mk k pts ps, d, c, h, ho => by
    unfold cnt at ho ⊢
    obtain ⟨h1, h2, h3⟩ := own1_le pts.length d c h
    have h4 := (cnts_le k ps d _ h2).1
    have h5 := cnts_ok k ps d _ h2 h3 ho
    rw [h5]
    have ho2 : (own1 pts.length d c).ok := ⟨by have := h4.1; have := ho.1; omega, by have := h4.2.1; have := ho.2.1; omega, by have := h4.2.2; have := ho.2.2; omega⟩
    unfold own1 Cn.ok at ho2
    simp only at ho2
    unfold own1 Cn.add Sh.flat Sh.nodes Sh.dep
    have h0 := h.1
    have m1 := mn_iff (c.points + mn pts.length 4001) 4001
    have m2 := mn_iff pts.length 4001
    have m3 := mn_iff (c.parts + 1) 1001
    refine Cn.ext' ?_ ?_ ?_
    · simp only [List.length_append, Int.natCast_add]; omega
    · simp only; omega
    · simp only
      rw [deps_mx, deps_mx]
      congr 1
      rw [mx_assoc, mx_le (Int.le_refl d)]
theorem cnts_ok (k : Int) : ∀ (l : List Sh) (d : Int) (c : Cn), c.in_ → d ≤ c.depth → (cnts k l d c).ok → cnts k l d c = c.add (flats l).length (nodess l) (deps k l d d)
  | [], d, c, h, hd, ho => by
    unfold cnts Cn.add flats nodess deps
    exact Cn.ext' (by simp) (by simp) (mx_le hd).symm
  | p :: ps, d, c, h, hd, ho => by
    have hm := (cnts_le k (p :: ps) d c h).1
    have hg : goes k p d c = true := by
      unfold goes full
      have h1 := deeper_le k p.kind d
      have h2 := hm.1
      have h3 := hm.2.2
      have h4 := ho.1
      have h5 := ho.2.2
      simp only [Bool.and_eq_true, decide_eq_true_eq, Bool.not_eq_true', Bool.and_eq_false_iff, decide_eq_false_iff_not]
      omega
    unfold cnts at ho ⊢
    rw [if_pos hg] at ho ⊢
    obtain ⟨h1, h2⟩ := cnt_le p (deeper k p.kind d) c h
    have h4 := (cnts_le k ps d _ h2).1
    have ho2 : (cnt p (deeper k p.kind d) c).ok := ⟨by have := h4.1; have := ho.1; omega, by have := h4.2.1; have := ho.2.1; omega, by have := h4.2.2; have := ho.2.2; omega⟩
    have h6 := cnt_ok p _ c h ho2
    rw [cnts_ok k ps d _ h2 (by have := h1.2.2; omega) ho, h6]
    unfold Cn.add
    refine Cn.ext' ?_ ?_ ?_
    · simp only [flats, List.length_append, Int.natCast_add]; omega
    · simp only [nodess]; omega
    · simp only
      rw [deps.eq_2, mx_assoc, deps_mx, deps_mx, deps_mx]
      congr 1
      have a1 := mx_iff d (p.dep (deeper k p.kind d)); have a2 := mx_iff (p.dep (deeper k p.kind d)) d
      have a3 := dep_le p (deeper k p.kind d); have a4 := deeper_le k p.kind d
      have a5 := mx_iff c.depth (mx (p.dep (deeper k p.kind d)) d)
      have a6 := mx_iff c.depth (mx d (p.dep (deeper k p.kind d)))
      omega
end
def c0 : Cn := ⟨0, -1, 0⟩
theorem c0_in : c0.in_ := by unfold c0 Cn.in_; simp
def count (s : Sh) : Cn := cnt s 1 c0
/-- May a shape be gone over without a bound? -/
def light (s : Sh) : Bool := decide ((count s).points ≤ 4000) && (decide ((count s).parts ≤ 1000) && decide ((count s).depth ≤ 16))
/-- What a light shape has. -/
theorem light_is {s : Sh} (h : light s = true) : s.flat.length ≤ 4000 ∧ s.nodes ≤ 1001 ∧ s.dep 1 ≤ 16 ∧ count s = ⟨s.flat.length, s.nodes - 1, s.dep 1⟩ := by
  unfold light at h
  simp only [Bool.and_eq_true, decide_eq_true_eq] at h
  have ho : (count s).ok := h
  have e := cnt_ok s 1 c0 c0_in ho
  have hd := dep_le s 1
  have m := mx_iff 0 (s.dep 1)
  have e2 : count s = ⟨s.flat.length, s.nodes - 1, s.dep 1⟩ := by
    show cnt s 1 c0 = _
    rw [e]
    unfold Cn.add c0
    exact Cn.ext' (by simp) (by simp only; omega) (by simp only; omega)
  rw [e2] at h
  simp only at h
  exact ⟨by omega, by omega, by omega, e2⟩
end Go.Proofs.YtfknhpgelleenaaDoor.MShape
namespace Go.Proofs.YtfknhpgelleenaaDoor.MShape
set_option linter.unusedVariables false
set_option linter.unusedSimpArgs false
def isKind (k : Int) : Bool := decide (1 ≤ k) && decide (k ≤ 7)
/-- The kind of a kind's parts; -2: any; -1: none. -/
def partOf (k : Int) : Int := if k = 3 then 0 else if k = 4 then 1 else if k = 5 then 2 else if k = 6 then 3 else if k = 7 then -2 else -1
def ends (pts : List (Int × Int)) : Bool := (pts.getD 0 (0, 0)).1 == (pts.getD (pts.length - 1) (0, 0)).1 && (pts.getD 0 (0, 0)).2 == (pts.getD (pts.length - 1) (0, 0)).2
def own (k : Int) (pts : List (Int × Int)) : Bool :=
  if k = 0 then decide (4 ≤ pts.length) && ends pts else if k = 1 then decide (pts.length ≤ 1) else if k = 2 then !decide (pts.length = 1) else isKind k && decide (pts.length = 0)
def fits (k k' : Int) : Bool := if k = 0 then false else if partOf k = -2 then isKind k' else k' == partOf k
mutual
def right : Sh → Bool
  | .mk k pts ps => own k pts && rights k ps
def rights (k : Int) : List Sh → Bool
  | [] => true
  | p :: ps => (fits k p.kind && right p) && rights k ps
end
def nowhere (p : Int × Int) : Bool := p.1 == -9223372036854775808 || p.2 == -9223372036854775808
def check (s : Sh) : Int :=
  if 16 < (count s).depth then 10 else if 4000 < (count s).points ∨ 1000 < (count s).parts then 12 else if (isKind s.kind && right s) = false then 9 else if s.flat.any nowhere = true then 11 else 0
def eqPts : List (Int × Int) → List (Int × Int) → Bool
  | [], [] => true
  | a :: l, b :: m => (a.1 == b.1 && a.2 == b.2) && eqPts l m
  | _, _ => false
mutual
def eqS : Sh → Sh → Bool
  | .mk k p ps, .mk k' p' ps' => k == k' && (eqPts p p' && eqsS ps ps')
def eqsS : List Sh → List Sh → Bool
  | [], [] => true
  | a :: l, b :: m => eqS a b && eqsS l m
  | _, _ => false
end
theorem eqPts_iff : ∀ l m, eqPts l m = true ↔ l = m
  | [], [] => by simp [eqPts]
  | [], b :: m => by simp [eqPts]
  | a :: l, [] => by simp [eqPts]
  | (a1, a2) :: l, (b1, b2) :: m => by
    unfold eqPts
    simp only [Bool.and_eq_true, beq_iff_eq, eqPts_iff l m, List.cons.injEq, Prod.mk.injEq]
mutual
theorem eqS_refl : ∀ s : Sh, eqS s s = true
  | .mk k p ps => by unfold eqS; rw [(eqPts_iff p p).2 rfl, eqsS_refl ps]; simp
theorem eqsS_refl : ∀ l : List Sh, eqsS l l = true
  | [] => by unfold eqsS; rfl
  | a :: l => by unfold eqsS; rw [eqS_refl a, eqsS_refl l]; rfl
end
theorem eqPts_len {l m : List (Int × Int)} (h : l.length ≠ m.length) : eqPts l m = false := by
  cases h' : eqPts l m
  · rfl
  · exact absurd (congrArg List.length ((eqPts_iff l m).1 h')) h
theorem eqsS_len : ∀ {l m : List Sh}, l.length ≠ m.length → eqsS l m = false
  | [], [], h => by simp at h
  | [], _ :: _, _ => by simp [eqsS]
  | _ :: _, [], _ => by simp [eqsS]
  | a :: l, b :: m, h => by unfold eqsS; rw [eqsS_len (by simpa using h)]; simp
end Go.Proofs.YtfknhpgelleenaaDoor.MShape
end
