/- Texts laid as one: Plain facts on numbers of three words (layer 1): sums and differences bit by bit and word by word, how they stand, how many bits they have, their digits; no program and no memory. · Plain facts on decimal digits (layer 1): a number's digits, the number of digits, texts that are a number; no program and no memory. · Plain facts on Go's way to part a number of two words by 10^19 (layer 1), and of three words word by word; no program and no memory. · Plain facts on boxes (layer 15): which may be, what is around two, what they share, their areas; no program and no memory. · Plain facts on where a box goes and how entries are parted (layer 19); no program and no memory. -/
import Derived.RowKit
namespace Go.Proofs.Ytljcingmjemohaa.MWide
open Go
set_option linter.unusedVariables false
set_option linter.unusedSimpArgs false

/-! ### words -/
def w0 (n : Int) : Int := n % 18446744073709551616
def w1 (n : Int) : Int := n / 18446744073709551616 % 18446744073709551616
def w2 (n : Int) : Int := n / 340282366920938463463374607431768211456 % 18446744073709551616
def of3 (a b c : Int) : Int := a + 18446744073709551616 * b + 340282366920938463463374607431768211456 * c
/-- A number of three words. -/
def U192 (n : Int) : Prop := 0 ≤ n ∧ n < 6277101735386680763835789423207666416102355444464034512896
def W64 (n : Int) : Prop := 0 ≤ n ∧ n < 18446744073709551616
theorem w0_64 (n : Int) : W64 (w0 n) := by unfold w0 W64; omega
theorem w1_64 (n : Int) : W64 (w1 n) := by unfold w1 W64; omega
theorem w2_64 (n : Int) : W64 (w2 n) := by unfold w2 W64; omega
theorem of3_w {n : Int} (h : U192 n) : of3 (w0 n) (w1 n) (w2 n) = n := by unfold of3 w0 w1 w2; unfold U192 at h; omega
theorem of3_u {a b c : Int} (ha : W64 a) (hb : W64 b) (hc : W64 c) : U192 (of3 a b c) := by unfold of3 U192; unfold W64 at *; omega
theorem w0_of3 {a b c : Int} (ha : W64 a) (hb : W64 b) (hc : W64 c) : w0 (of3 a b c) = a := by unfold of3 w0; unfold W64 at *; omega
theorem w1_of3 {a b c : Int} (ha : W64 a) (hb : W64 b) (hc : W64 c) : w1 (of3 a b c) = b := by unfold of3 w1; unfold W64 at *; omega
theorem w2_of3 {a b c : Int} (ha : W64 a) (hb : W64 b) (hc : W64 c) : w2 (of3 a b c) = c := by unfold of3 w2; unfold W64 at *; omega
theorem u64_u {n : Int} (h : W64 n) : U192 n := by unfold U192; unfold W64 at h; omega
theorem w0_64' {n : Int} (h : W64 n) : w0 n = n := by unfold w0; unfold W64 at h; omega
theorem w1_64' {n : Int} (h : W64 n) : w1 n = 0 := by unfold w1; unfold W64 at h; omega
theorem w2_64' {n : Int} (h : W64 n) : w2 n = 0 := by unfold w2; unfold W64 at h; omega
theorem w_ext {a b : Int} (ha : U192 a) (hb : U192 b) (h0 : w0 a = w0 b) (h1 : w1 a = w1 b) (h2 : w2 a = w2 b) : a = b := by
  rw [← of3_w ha, ← of3_w hb, h0, h1, h2]
theorem w_mul {a b : Int} (ha : W64 a) (hb : W64 b) : 0 ≤ a * b ∧ a * b < 340282366920938463463374607431768211456 := by
  obtain ⟨a0, a1⟩ := ha
  obtain ⟨b0, b1⟩ := hb
  refine ⟨Int.mul_nonneg a0 b0, ?_⟩
  have h1 : a * b ≤ a * 18446744073709551615 := Int.mul_le_mul_of_nonneg_left (by omega) a0
  omega
theorem u_mul {a b : Int} (ha : W64 a) (hb : W64 b) : U192 (a * b) := by have := w_mul ha hb; unfold U192; omega

/-! ### dividing -/
theorem div_of {a m q r : Int} (h : a = m * q + r) (h0 : 0 ≤ r) (h1 : r < m) : a / m = q := by
  subst h
  rw [Int.add_comm, Int.add_mul_ediv_left _ _ (by omega), Int.ediv_eq_zero_of_lt h0 h1, Int.zero_add]
theorem mod_of {a m q r : Int} (h : a = m * q + r) (h0 : 0 ≤ r) (h1 : r < m) : a % m = r := by
  subst h
  rw [Int.add_comm, Int.add_mul_emod_self_left, Int.emod_eq_of_lt h0 h1]
theorem parts (a m : Int) : a = m * (a / m) + a % m := (Int.mul_ediv_add_emod a m).symm
theorem p2 (i : Nat) : (0 : Int) < 2 ^ i := Int.pow_pos (by decide)
theorem p2s (i : Nat) : (2 : Int) ^ (i + 1) = 2 * 2 ^ i := by rw [Int.pow_succ, Int.mul_comm]

/-! ### bits -/
/-- The i-th bit. -/
def bt (n : Int) (i : Nat) : Int := n / 2 ^ i % 2
theorem bt01 (n : Int) (i : Nat) : 0 ≤ bt n i ∧ bt n i ≤ 1 := by unfold bt; omega
theorem mod_succ (a : Int) (i : Nat) : a % 2 ^ (i + 1) = 2 ^ i * bt a i + a % 2 ^ i := by
  have hp := p2 i
  have h1 := parts a (2 ^ i)
  have h2 := parts (a / 2 ^ i) 2
  have hr0 := Int.emod_nonneg a (Int.ne_of_gt hp)
  have hr1 := Int.emod_lt_of_pos a hp
  have hb := bt01 a i
  unfold bt at hb ⊢
  generalize a / 2 ^ i = q at *
  generalize a % 2 ^ i = r at *
  generalize q / 2 = d at *
  rw [p2s]
  generalize (2 : Int) ^ i = P at *
  generalize q % 2 = t at *
  refine mod_of (q := d) ?_ ?_ ?_
  · rw [h1, h2, Int.mul_add, Int.mul_assoc, Int.mul_left_comm P 2 d]; omega
  · rcases (by omega : t = 0 ∨ t = 1) with rfl | rfl <;> omega
  · rcases (by omega : t = 0 ∨ t = 1) with rfl | rfl <;> omega
theorem div_succ (a : Int) (i : Nat) : a / 2 ^ i = 2 * (a / 2 ^ (i + 1)) + bt a i := by
  rw [p2s, Int.mul_comm 2 (2 ^ i), ← Int.ediv_ediv_of_nonneg (Int.le_of_lt (p2 i))]
  unfold bt
  omega
/-- The bits of a number, a word at a time. -/
theorem bt_word (n : Int) (q r : Nat) (hr : r < 64) : n / 2 ^ (64 * q) % 18446744073709551616 / 2 ^ r % 2 = bt n (64 * q + r) := by
  unfold bt
  rw [Int.pow_add, ← Int.ediv_ediv_of_nonneg (Int.le_of_lt (p2 (64 * q)))]
  generalize n / 2 ^ (64 * q) = m
  have e : (18446744073709551616 : Int) = 2 ^ r * (2 * 2 ^ (63 - r)) := by
    rw [← p2s, ← Int.pow_add, show r + (63 - r + 1) = 64 by omega]; rfl
  have hp := p2 r
  have hp2 := p2 (63 - r)
  have h1 := parts m 18446744073709551616
  rw [e] at h1 ⊢
  generalize (2 : Int) ^ (63 - r) = R at *
  generalize (2 : Int) ^ r = P at *
  generalize m / (P * (2 * R)) = D at *
  generalize m % (P * (2 * R)) = x at *
  have h2 : m / P = x / P + 2 * (R * D) := by
    rw [h1, Int.mul_assoc, Int.mul_assoc, Int.add_comm, Int.add_mul_ediv_left _ _ (by omega)]
  rw [h2]
  omega
theorem bt_w (n : Int) (i : Nat) (h : i < 192) : bt n i = (if i < 64 then w0 n else if i < 128 then w1 n else w2 n) / 2 ^ (i % 64) % 2 := by
  split
  · have := bt_word n 0 i (by omega)
    rw [show 64 * 0 + i = i by omega] at this
    rw [← this, show i % 64 = i by omega]
    unfold w0
    simp
  · split
    · have := bt_word n 1 (i - 64) (by omega)
      rw [show 64 * 1 + (i - 64) = i by omega] at this
      rw [← this, show i % 64 = i - 64 by omega]
      unfold w1
      rfl
    · have := bt_word n 2 (i - 128) (by omega)
      rw [show 64 * 2 + (i - 128) = i by omega] at this
      rw [← this, show i % 64 = i - 128 by omega]
      unfold w2
      rfl

/-! ### a bit more -/
theorem put_lt {n : Int} {i : Nat} (h : U192 n) (hi : i < 192) (hb : bt n i = 0) : U192 (n + 2 ^ i) := by
  obtain ⟨h0, h1⟩ := h
  have hp := p2 i
  refine ⟨by omega, ?_⟩
  have e : (6277101735386680763835789423207666416102355444464034512896 : Int) = 2 ^ (i + 1) * 2 ^ (191 - i) := by
    rw [← Int.pow_add, show i + 1 + (191 - i) = 192 by omega]; rfl
  rw [e] at h1 ⊢
  have e1 := div_succ n i
  rw [hb, Int.add_zero] at e1
  have e2 := parts n (2 ^ i)
  rw [e1] at e2
  have hr1 := Int.emod_lt_of_pos n hp
  have hq : n / 2 ^ (i + 1) < 2 ^ (191 - i) := Int.ediv_lt_of_lt_mul (p2 _) (by rw [Int.mul_comm]; exact h1)
  rw [p2s] at *
  generalize n / (2 * 2 ^ i) = q at *
  generalize n % 2 ^ i = r at *
  have h3 : 2 * 2 ^ i * (q + 1) ≤ 2 * 2 ^ i * 2 ^ (191 - i) := Int.mul_le_mul_of_nonneg_left (by omega) (by omega)
  rw [Int.mul_add, Int.mul_one] at h3
  rw [Int.mul_left_comm, ← Int.mul_assoc] at e2
  omega
/-- In a word. -/
theorem put_word {x : Int} {r : Nat} (hr : r < 64) (h : W64 x) (hb : x / 2 ^ r % 2 = 0) : x + 2 ^ r < 18446744073709551616 := by
  obtain ⟨h0, h1⟩ := h
  have hp := p2 r
  have e : (18446744073709551616 : Int) = 2 ^ (r + 1) * 2 ^ (63 - r) := by
    rw [← Int.pow_add, show r + 1 + (63 - r) = 64 by omega]; rfl
  rw [e] at h1 ⊢
  have e1 := div_succ x r
  unfold bt at e1
  rw [hb, Int.add_zero] at e1
  have e2 := parts x (2 ^ r)
  rw [e1] at e2
  have hr1 := Int.emod_lt_of_pos x hp
  have hq : x / 2 ^ (r + 1) < 2 ^ (63 - r) := Int.ediv_lt_of_lt_mul (p2 _) (by rw [Int.mul_comm]; exact h1)
  rw [p2s] at *
  generalize x / (2 * 2 ^ r) = q at *
  generalize x % 2 ^ r = s at *
  have h3 : 2 * 2 ^ r * (q + 1) ≤ 2 * 2 ^ r * 2 ^ (63 - r) := Int.mul_le_mul_of_nonneg_left (by omega) (by omega)
  rw [Int.mul_add, Int.mul_one] at h3
  rw [Int.mul_left_comm, ← Int.mul_assoc] at e2
  omega
theorem put_w0 {n : Int} {i : Nat} (h : U192 n) (hi : i < 64) (hb : bt n i = 0) : w0 (n + 2 ^ i) = w0 n + 2 ^ i ∧ w1 (n + 2 ^ i) = w1 n ∧ w2 (n + 2 ^ i) = w2 n := by
  have hw := put_word hi (w0_64 n) (by rw [bt_w n i (by omega), if_pos hi, Nat.mod_eq_of_lt hi] at hb; exact hb)
  have e := of3_w h
  have a := w0_64 n; have b := w1_64 n; have c := w2_64 n
  have hp := p2 i
  generalize w0 n = x at *; generalize w1 n = y at *; generalize w2 n = z at *
  generalize (2 : Int) ^ i = P at *
  subst e
  unfold w0 w1 w2 of3
  unfold W64 at *
  omega
theorem put_w1 {n : Int} {i : Nat} (h : U192 n) (hi : 64 ≤ i) (hi2 : i < 128) (hb : bt n i = 0) : w0 (n + 2 ^ i) = w0 n ∧ w1 (n + 2 ^ i) = w1 n + 2 ^ (i - 64) ∧ w2 (n + 2 ^ i) = w2 n := by
  have hw := put_word (r := i - 64) (by omega) (w1_64 n) (by rw [bt_w n i (by omega), if_neg (by omega), if_pos hi2, show i % 64 = i - 64 by omega] at hb; exact hb)
  have e := of3_w h
  have a := w0_64 n; have b := w1_64 n; have c := w2_64 n
  have hp := p2 (i - 64)
  have e2 : (2 : Int) ^ i = 18446744073709551616 * 2 ^ (i - 64) := by
    rw [show (18446744073709551616 : Int) = 2 ^ 64 from rfl, ← Int.pow_add, show 64 + (i - 64) = i by omega]
  rw [e2]
  generalize w0 n = x at *; generalize w1 n = y at *; generalize w2 n = z at *
  generalize (2 : Int) ^ (i - 64) = P at *
  subst e
  unfold w0 w1 w2 of3
  unfold W64 at *
  omega
theorem put_w2 {n : Int} {i : Nat} (h : U192 n) (hi : 128 ≤ i) (hi2 : i < 192) (hb : bt n i = 0) : w0 (n + 2 ^ i) = w0 n ∧ w1 (n + 2 ^ i) = w1 n ∧ w2 (n + 2 ^ i) = w2 n + 2 ^ (i - 128) := by
  have hw := put_word (r := i - 128) (by omega) (w2_64 n) (by rw [bt_w n i (by omega), if_neg (by omega), if_neg (by omega), show i % 64 = i - 128 by omega] at hb; exact hb)
  have e := of3_w h
  have a := w0_64 n; have b := w1_64 n; have c := w2_64 n
  have hp := p2 (i - 128)
  have e2 : (2 : Int) ^ i = 340282366920938463463374607431768211456 * 2 ^ (i - 128) := by
    rw [show (340282366920938463463374607431768211456 : Int) = 2 ^ 128 from rfl, ← Int.pow_add, show 128 + (i - 128) = i by omega]
  rw [e2]
  generalize w0 n = x at *; generalize w1 n = y at *; generalize w2 n = z at *
  generalize (2 : Int) ^ (i - 128) = P at *
  subst e
  unfold w0 w1 w2 of3
  unfold W64 at *
  omega
/-- A number below 2^i has no bit from i on; one that 2^(i+1) divides has none below. -/
theorem bt_lt {n : Int} {i : Nat} (h0 : 0 ≤ n) (h : n < 2 ^ i) : bt n i = 0 := by unfold bt; rw [Int.ediv_eq_zero_of_lt h0 h]; rfl
theorem bt_mul (m : Int) (i : Nat) : bt (2 ^ (i + 1) * m) i = 0 := by
  unfold bt
  rw [p2s, Int.mul_assoc, Int.mul_left_comm, Int.mul_ediv_cancel_left _ (Int.ne_of_gt (p2 i))]
  omega

/-! ### sums and differences -/
/-- What is carried on from i bits. -/
def cry (a b : Int) (i : Nat) : Int := (a % 2 ^ i + b % 2 ^ i) / 2 ^ i
def sumO (a b : Int) (i : Nat) : Int := (a % 2 ^ i + b % 2 ^ i) % 2 ^ i
theorem cry01 (a b : Int) (i : Nat) : 0 ≤ cry a b i ∧ cry a b i ≤ 1 := by
  unfold cry
  have hp := p2 i
  have a0 := Int.emod_nonneg a (Int.ne_of_gt hp); have a1 := Int.emod_lt_of_pos a hp
  have b0 := Int.emod_nonneg b (Int.ne_of_gt hp); have b1 := Int.emod_lt_of_pos b hp
  refine ⟨Int.ediv_nonneg (by omega) (by omega), ?_⟩
  have : (a % 2 ^ i + b % 2 ^ i) / 2 ^ i < 2 := Int.ediv_lt_of_lt_mul hp (by omega)
  omega
theorem sumO_lt (a b : Int) (i : Nat) : 0 ≤ sumO a b i ∧ sumO a b i < 2 ^ i := by
  unfold sumO
  exact ⟨Int.emod_nonneg _ (Int.ne_of_gt (p2 i)), Int.emod_lt_of_pos _ (p2 i)⟩
theorem add_step (a b : Int) (i : Nat) : cry a b (i + 1) = (bt a i + bt b i + cry a b i) / 2 ∧ sumO a b (i + 1) = sumO a b i + 2 ^ i * ((bt a i + bt b i + cry a b i) % 2) := by
  have ha := mod_succ a i
  have hb := mod_succ b i
  have h1 := parts (a % 2 ^ i + b % 2 ^ i) (2 ^ i)
  have h2 := sumO_lt a b i
  have h3 := cry01 a b i
  have h4 := bt01 a i
  have h5 := bt01 b i
  unfold cry sumO at *
  rw [ha, hb, p2s]
  have hp := p2 i
  generalize (a % 2 ^ i + b % 2 ^ i) / 2 ^ i = c at *
  generalize (a % 2 ^ i + b % 2 ^ i) % 2 ^ i = o at *
  generalize a % 2 ^ i = x at *; generalize b % 2 ^ i = y at *
  generalize (2 : Int) ^ i = P at *
  generalize bt a i = s at *; generalize bt b i = t at *
  have e : P * s + x + (P * t + y) = 2 * P * ((s + t + c) / 2) + (o + P * ((s + t + c) % 2)) := by
    have hd := parts (s + t + c) 2
    generalize (s + t + c) / 2 = d at *
    generalize (s + t + c) % 2 = m at *
    have : P * s + x + (P * t + y) = P * (s + t + c) + o := by rw [Int.mul_add, Int.mul_add]; omega
    rw [this, hd, Int.mul_add, Int.mul_assoc, Int.mul_left_comm]; omega
  have hm : (s + t + c) % 2 = 0 ∨ (s + t + c) % 2 = 1 := by omega
  have hlo : 0 ≤ o + P * ((s + t + c) % 2) := by rcases hm with h | h <;> rw [h] <;> omega
  have hhi : o + P * ((s + t + c) % 2) < 2 * P := by rcases hm with h | h <;> rw [h] <;> omega
  exact ⟨div_of e hlo hhi, mod_of e hlo hhi⟩
theorem cry_top {a b : Int} (ha : U192 a) (hb : U192 b) : (cry a b 192 = 0 ↔ a + b < 6277101735386680763835789423207666416102355444464034512896) ∧ (a + b < 6277101735386680763835789423207666416102355444464034512896 → sumO a b 192 = a + b) := by
  unfold U192 at *
  unfold cry sumO
  rw [show (2 : Int) ^ 192 = 6277101735386680763835789423207666416102355444464034512896 from rfl]
  omega
theorem cry_0 (a b : Int) : cry a b 0 = 0 ∧ sumO a b 0 = 0 := by
  unfold cry sumO
  rw [Int.pow_zero]; omega
/-- What is borrowed. -/
def bor (a b : Int) (i : Nat) : Int := -((a % 2 ^ i - b % 2 ^ i) / 2 ^ i)
def difO (a b : Int) (i : Nat) : Int := (a % 2 ^ i - b % 2 ^ i) % 2 ^ i
theorem bor01 (a b : Int) (i : Nat) : 0 ≤ bor a b i ∧ bor a b i ≤ 1 := by
  unfold bor
  have hp := p2 i
  have a0 := Int.emod_nonneg a (Int.ne_of_gt hp); have a1 := Int.emod_lt_of_pos a hp
  have b0 := Int.emod_nonneg b (Int.ne_of_gt hp); have b1 := Int.emod_lt_of_pos b hp
  have h1 : (a % 2 ^ i - b % 2 ^ i) / 2 ^ i < 1 := Int.ediv_lt_of_lt_mul hp (by omega)
  have h2 : -1 ≤ (a % 2 ^ i - b % 2 ^ i) / 2 ^ i := Int.le_ediv_of_mul_le hp (by omega)
  omega
theorem difO_lt (a b : Int) (i : Nat) : 0 ≤ difO a b i ∧ difO a b i < 2 ^ i := by
  unfold difO
  exact ⟨Int.emod_nonneg _ (Int.ne_of_gt (p2 i)), Int.emod_lt_of_pos _ (p2 i)⟩
theorem sub_step (a b : Int) (i : Nat) : bor a b (i + 1) = (if bt b i + bor a b i > bt a i then 1 else 0) ∧ difO a b (i + 1) = difO a b i + 2 ^ i * ((bt a i + (bt b i + bor a b i)) % 2) := by
  have ha := mod_succ a i
  have hb := mod_succ b i
  have h1 := parts (a % 2 ^ i - b % 2 ^ i) (2 ^ i)
  have h2 := difO_lt a b i
  have h3 := bor01 a b i
  have h4 := bt01 a i
  have h5 := bt01 b i
  unfold bor difO at *
  rw [ha, hb, p2s]
  have hp := p2 i
  generalize (a % 2 ^ i - b % 2 ^ i) / 2 ^ i = c at *
  generalize (a % 2 ^ i - b % 2 ^ i) % 2 ^ i = o at *
  generalize a % 2 ^ i = x at *; generalize b % 2 ^ i = y at *
  generalize (2 : Int) ^ i = P at *
  generalize bt a i = s at *; generalize bt b i = t at *
  have e : P * s + x - (P * t + y) = 2 * P * ((s - t + c) / 2) + (o + P * ((s - t + c) % 2)) := by
    have hd := parts (s - t + c) 2
    generalize (s - t + c) / 2 = d at *
    generalize (s - t + c) % 2 = m at *
    have : P * s + x - (P * t + y) = P * (s - t + c) + o := by rw [Int.mul_add, Int.mul_sub]; omega
    rw [this, hd, Int.mul_add, Int.mul_assoc, Int.mul_left_comm]; omega
  have hm : (s - t + c) % 2 = 0 ∨ (s - t + c) % 2 = 1 := by omega
  have hlo : 0 ≤ o + P * ((s - t + c) % 2) := by rcases hm with h | h <;> rw [h] <;> omega
  have hhi : o + P * ((s - t + c) % 2) < 2 * P := by rcases hm with h | h <;> rw [h] <;> omega
  rw [div_of e hlo hhi, mod_of e hlo hhi]
  refine ⟨?_, ?_⟩
  · split <;> omega
  · rw [show (s - t + c) % 2 = (s + (t + -c)) % 2 by omega]
theorem bor_top {a b : Int} (ha : U192 a) (hb : U192 b) : (bor a b 192 = 0 ↔ b ≤ a) ∧ (b ≤ a → difO a b 192 = a - b) := by
  unfold U192 at *
  unfold bor difO
  rw [show (2 : Int) ^ 192 = 6277101735386680763835789423207666416102355444464034512896 from rfl]
  omega
theorem bor_0 (a b : Int) : bor a b 0 = 0 ∧ difO a b 0 = 0 := by
  unfold bor difO
  rw [Int.pow_zero]; omega
/-- The answers. -/
def addOk (a b : Int) : Bool := decide (a + b < 6277101735386680763835789423207666416102355444464034512896)
def addV (a b : Int) : Int := if addOk a b = true then a + b else 0
def subOk (a b : Int) : Bool := decide (b ≤ a)
def subV (a b : Int) : Int := if subOk a b = true then a - b else 0
theorem addV_u {a b : Int} (ha : U192 a) (hb : U192 b) : U192 (addV a b) := by
  unfold addV addOk; unfold U192 at *; split <;> simp_all <;> omega
theorem subV_u {a b : Int} (ha : U192 a) (hb : U192 b) : U192 (subV a b) := by
  unfold subV subOk; unfold U192 at *; split <;> simp_all <;> omega

/-! ### a word at a time -/
theorem add_words {a b : Int} (ha : U192 a) (hb : U192 b) (c0 c1 c2 : Int) (h0 : c0 = (w0 a + w0 b) / 18446744073709551616) (h1 : c1 = (w1 a + w1 b + c0) / 18446744073709551616) (h2 : c2 = (w2 a + w2 b + c1) / 18446744073709551616) :
    (0 ≤ c0 ∧ c0 ≤ 1) ∧ (0 ≤ c1 ∧ c1 ≤ 1) ∧ (0 ≤ c2 ∧ c2 ≤ 1) ∧ (addOk a b = true → c2 = 0 ∧ (w0 a + w0 b) % 18446744073709551616 = w0 (addV a b) ∧ (w1 a + w1 b + c0) % 18446744073709551616 = w1 (addV a b) ∧ (w2 a + w2 b + c1) % 18446744073709551616 = w2 (addV a b)) ∧ (addOk a b = false → c2 = 1 ∧ addV a b = 0) := by
  have ea := of3_w ha
  have eb := of3_w hb
  have a0 := w0_64 a; have a1 := w1_64 a; have a2 := w2_64 a
  have b0 := w0_64 b; have b1 := w1_64 b; have b2 := w2_64 b
  generalize w0 a = x0 at *; generalize w1 a = x1 at *; generalize w2 a = x2 at *
  generalize w0 b = y0 at *; generalize w1 b = y1 at *; generalize w2 b = y2 at *
  subst ea eb
  unfold W64 at *
  unfold addV addOk
  refine ⟨by omega, by omega, by omega, fun h => ?_, fun h => ?_⟩
  · rw [if_pos h]
    simp only [decide_eq_true_eq] at h
    unfold of3 at *
    unfold w0 w1 w2
    omega
  · rw [if_neg (by simp [h])]
    simp only [decide_eq_false_iff_not] at h
    unfold of3 at *
    omega
theorem sub_words {a b : Int} (ha : U192 a) (hb : U192 b) (c0 c1 c2 : Int) (h0 : c0 = if w0 a < w0 b then 1 else 0) (h1 : c1 = if w1 a < w1 b + c0 then 1 else 0) (h2 : c2 = if w2 a < w2 b + c1 then 1 else 0) :
    (0 ≤ c0 ∧ c0 ≤ 1) ∧ (0 ≤ c1 ∧ c1 ≤ 1) ∧ (0 ≤ c2 ∧ c2 ≤ 1) ∧ (subOk a b = true → c2 = 0 ∧ (w0 a - w0 b) % 18446744073709551616 = w0 (subV a b) ∧ (w1 a - w1 b - c0) % 18446744073709551616 = w1 (subV a b) ∧ (w2 a - w2 b - c1) % 18446744073709551616 = w2 (subV a b)) ∧ (subOk a b = false → c2 = 1 ∧ subV a b = 0) := by
  have ea := of3_w ha
  have eb := of3_w hb
  have a0 := w0_64 a; have a1 := w1_64 a; have a2 := w2_64 a
  have b0 := w0_64 b; have b1 := w1_64 b; have b2 := w2_64 b
  generalize w0 a = x0 at *; generalize w1 a = x1 at *; generalize w2 a = x2 at *
  generalize w0 b = y0 at *; generalize w1 b = y1 at *; generalize w2 b = y2 at *
  subst ea eb
  unfold W64 at *
  unfold subV subOk
  refine ⟨by split at h0 <;> omega, by split at h1 <;> omega, by split at h2 <;> omega, fun h => ?_, fun h => ?_⟩
  · rw [if_pos h]
    simp only [decide_eq_true_eq] at h
    unfold of3 at *
    unfold w0 w1 w2
    split at h0 <;> split at h1 <;> split at h2 <;> omega
  · rw [if_neg (by simp [h])]
    simp only [decide_eq_false_iff_not] at h
    unfold of3 at *
    split at h0 <;> split at h1 <;> split at h2 <;> omega

/-! ### how two numbers stand -/
def cmpV (a b : Int) : Int := if a < b then -1 else if a = b then 0 else 1
theorem cmp_words {a b : Int} (ha : U192 a) (hb : U192 b) : cmpV a b = if cmpV (w2 a) (w2 b) ≠ 0 then cmpV (w2 a) (w2 b) else if cmpV (w1 a) (w1 b) ≠ 0 then cmpV (w1 a) (w1 b) else cmpV (w0 a) (w0 b) := by
  have ea := of3_w ha
  have eb := of3_w hb
  have a0 := w0_64 a; have a1 := w1_64 a; have a2 := w2_64 a
  have b0 := w0_64 b; have b1 := w1_64 b; have b2 := w2_64 b
  generalize w0 a = x0 at *; generalize w1 a = x1 at *; generalize w2 a = x2 at *
  generalize w0 b = y0 at *; generalize w1 b = y1 at *; generalize w2 b = y2 at *
  subst ea eb
  unfold W64 at *
  unfold of3 cmpV
  rcases Int.lt_trichotomy x2 y2 with h2 | h2 | h2
  · rw [if_pos (by omega), if_pos h2]; simp
  · rw [if_neg (show ¬ x2 < y2 by omega), if_pos h2]
    simp only [ne_eq, not_true, if_false]
    rcases Int.lt_trichotomy x1 y1 with h1 | h1 | h1
    · rw [if_pos (by omega), if_pos h1]; simp
    · rw [if_neg (show ¬ x1 < y1 by omega), if_pos h1]
      simp only [ne_eq, not_true, if_false]
      rcases Int.lt_trichotomy x0 y0 with h0 | h0 | h0
      · rw [if_pos (by omega), if_pos h0]
      · rw [if_neg (by omega), if_pos (by omega), if_neg (by omega), if_pos h0]
      · rw [if_neg (by omega), if_neg (by omega), if_neg (by omega), if_neg (by omega)]
    · rw [if_neg (by omega), if_neg (by omega), if_neg (show ¬ x1 < y1 by omega), if_neg (show ¬ x1 = y1 by omega)]; simp
  · rw [if_neg (by omega), if_neg (by omega), if_neg (show ¬ x2 < y2 by omega), if_neg (show ¬ x2 = y2 by omega)]; simp
theorem cmp_lt {a b : Int} {i : Nat} (h : a / 2 ^ (i + 1) = b / 2 ^ (i + 1)) (hb : bt a i < bt b i) : a < b := by
  have h1 := div_succ a i
  have h2 := div_succ b i
  rw [h] at h1
  have hl : a / 2 ^ i < b / 2 ^ i := by omega
  rcases Int.lt_or_le a b with hc | hc
  · exact hc
  · have := Int.ediv_le_ediv (p2 i) hc; omega
theorem cmp_eq {a b : Int} {i : Nat} (h : a / 2 ^ (i + 1) = b / 2 ^ (i + 1)) (hb : bt a i = bt b i) : a / 2 ^ i = b / 2 ^ i := by
  rw [div_succ a i, div_succ b i, h, hb]

/-! ### how many bits -/
def width (n : Int) : Int := if n ≤ 0 then 0 else ((n.toNat.log2 : Nat) : Int) + 1
theorem width_at {n : Int} {i : Nat} (h : n / 2 ^ i = 1) : width n = (i : Int) + 1 := by
  have hp := p2 i
  have e := parts n (2 ^ i)
  have r0 := Int.emod_nonneg n (Int.ne_of_gt hp)
  have r1 := Int.emod_lt_of_pos n hp
  rw [h] at e
  unfold width
  rw [if_neg (by omega)]
  have : n.toNat.log2 = i := by
    refine (Nat.log2_eq_iff (by omega)).2 ⟨?_, ?_⟩
    · have : ((2 ^ i : Nat) : Int) ≤ (n.toNat : Int) := by rw [Int.toNat_of_nonneg (by omega)]; push_cast; omega
      exact_mod_cast this
    · have : (n.toNat : Int) < ((2 ^ (i + 1) : Nat) : Int) := by rw [Int.toNat_of_nonneg (by omega)]; push_cast; rw [p2s]; omega
      exact_mod_cast this
  rw [this]
theorem width_0 : width 0 = 0 := rfl
theorem width_pos {n : Int} (h : 0 < n) : 2 ^ (width n - 1).toNat ≤ n ∧ n < 2 ^ (width n).toNat ∧ 1 ≤ width n := by
  unfold width
  rw [if_neg (by omega)]
  have h1 := Nat.log2_self_le (n := n.toNat) (by omega)
  have h2 := Nat.lt_log2_self (n := n.toNat)
  refine ⟨?_, ?_, by omega⟩
  · rw [show ((n.toNat.log2 : Nat) : Int) + 1 - 1 = (n.toNat.log2 : Nat) by omega, Int.toNat_natCast]
    have : ((2 ^ n.toNat.log2 : Nat) : Int) ≤ (n.toNat : Int) := by exact_mod_cast h1
    rw [Int.toNat_of_nonneg (by omega)] at this
    push_cast at this
    exact this
  · rw [show (((n.toNat.log2 : Nat) : Int) + 1).toNat = n.toNat.log2 + 1 by omega]
    have : (n.toNat : Int) < ((2 ^ (n.toNat.log2 + 1) : Nat) : Int) := by exact_mod_cast h2
    rw [Int.toNat_of_nonneg (by omega)] at this
    push_cast at this
    exact this
theorem width_eq {n : Int} {k : Nat} (hl : 2 ^ k ≤ n) (hh : n < 2 ^ (k + 1)) : width n = (k : Int) + 1 :=
  width_at (div_of (q := 1) (r := n - 2 ^ k) (by omega) (by omega) (by rw [p2s] at hh; omega))
theorem p2_mono {a b : Nat} (h : a ≤ b) : (2 : Int) ^ a ≤ 2 ^ b := by
  have : (2 : Nat) ^ a ≤ 2 ^ b := Nat.pow_le_pow_right (by decide) h
  exact_mod_cast this
/-- The bits of a product. -/
theorem width_mul {a b : Int} (ha : 0 < a) (hb : 0 < b) : width a + width b - width (a * b) = 0 ∨ width a + width b - width (a * b) = 1 := by
  obtain ⟨a1, a2, a3⟩ := width_pos ha
  obtain ⟨b1, b2, b3⟩ := width_pos hb
  obtain ⟨k, hk⟩ : ∃ k : Nat, width a = (k : Int) + 1 := ⟨(width a - 1).toNat, by omega⟩
  obtain ⟨l, hl⟩ : ∃ l : Nat, width b = (l : Int) + 1 := ⟨(width b - 1).toNat, by omega⟩
  rw [hk] at a1 a2 ⊢
  rw [hl] at b1 b2 ⊢
  rw [show ((k : Int) + 1 - 1).toNat = k by omega] at a1
  rw [show ((l : Int) + 1 - 1).toNat = l by omega] at b1
  rw [show ((k : Int) + 1).toNat = k + 1 by omega] at a2
  rw [show ((l : Int) + 1).toNat = l + 1 by omega] at b2
  have lo : (2 : Int) ^ (k + l) ≤ a * b := by
    rw [Int.pow_add]
    exact Int.mul_le_mul a1 b1 (Int.le_of_lt (p2 l)) (by omega)
  have hi : a * b < 2 ^ (k + l + 2) := by
    rw [show k + l + 2 = (k + 1) + (l + 1) by omega, Int.pow_add]
    exact Int.mul_lt_mul a2 (Int.le_of_lt b2) hb (Int.le_of_lt (p2 (k + 1)))
  rcases Int.lt_or_le (a * b) (2 ^ (k + l + 1)) with h | h
  · rw [width_eq lo h]; right; omega
  · rw [width_eq h (by rw [show k + l + 1 + 1 = k + l + 2 by omega]; exact hi)]; left; omega
/-- A word at a time. -/
theorem width_words {n : Int} (h : U192 n) : width n = if 0 < w2 n then 128 + width (w2 n) else if 0 < w1 n then 64 + width (w1 n) else width (w0 n) := by
  have e := of3_w h
  have a := w0_64 n; have b := w1_64 n; have c := w2_64 n
  generalize w0 n = x at *; generalize w1 n = y at *; generalize w2 n = z at *
  subst e
  unfold W64 at *
  unfold of3
  split
  · rename_i hz
    obtain ⟨a1, a2, a3⟩ := width_pos hz
    obtain ⟨k, hk⟩ : ∃ k : Nat, width z = (k : Int) + 1 := ⟨(width z - 1).toNat, by omega⟩
    rw [hk] at a1 a2 ⊢
    rw [show ((k : Int) + 1 - 1).toNat = k by omega] at a1
    rw [show ((k : Int) + 1).toNat = k + 1 by omega] at a2
    have e1 : (2 : Int) ^ (128 + k) = 340282366920938463463374607431768211456 * 2 ^ k := by rw [Int.pow_add]; rfl
    have e2 : (2 : Int) ^ (128 + k + 1) = 340282366920938463463374607431768211456 * 2 ^ (k + 1) := by rw [Nat.add_assoc, Int.pow_add]; rfl
    rw [width_eq (k := 128 + k) (by rw [e1]; omega) (by rw [e2]; omega)]
    omega
  · split
    · rename_i hz hy
      obtain ⟨a1, a2, a3⟩ := width_pos hy
      obtain ⟨k, hk⟩ : ∃ k : Nat, width y = (k : Int) + 1 := ⟨(width y - 1).toNat, by omega⟩
      rw [hk] at a1 a2 ⊢
      rw [show ((k : Int) + 1 - 1).toNat = k by omega] at a1
      rw [show ((k : Int) + 1).toNat = k + 1 by omega] at a2
      have e1 : (2 : Int) ^ (64 + k) = 18446744073709551616 * 2 ^ k := by rw [Int.pow_add]; rfl
      have e2 : (2 : Int) ^ (64 + k + 1) = 18446744073709551616 * 2 ^ (k + 1) := by rw [Nat.add_assoc, Int.pow_add]; rfl
      rw [width_eq (k := 64 + k) (by rw [e1]; omega) (by rw [e2]; omega)]
      omega
    · rw [show x + 18446744073709551616 * y + 340282366920938463463374607431768211456 * z = x by omega]
end Go.Proofs.Ytljcingmjemohaa.MWide
namespace Go.Proofs.Ytljcingmjemohaa.MText
open Go Go.Proofs.Ytljcingmjemohaa.MWide
set_option linter.unusedVariables false
set_option linter.unusedSimpArgs false

theorem snoc_ind {α : Type} {motive : List α → Prop} (nil : motive []) (snoc : ∀ l c, motive l → motive (l ++ [c])) (l : List α) : motive l := by
  rw [← List.reverse_reverse l]
  induction l.reverse with
  | nil => exact nil
  | cons x l ih => rw [List.reverse_cons]; exact snoc _ _ ih
/-- So many digits, the lowest last. -/
def padD : Int → Nat → List Int
  | _, 0 => []
  | n, k + 1 => padD (n / 10) k ++ [48 + n % 10]
def strip (l : List Int) : List Int := l.dropWhile (· == 48)
/-- A number's digits. -/
def dec (n : Int) : List Int := if n ≤ 0 then [48] else strip (padD n 58)
theorem padD_length (n : Int) (k : Nat) : (padD n k).length = k := by
  induction k generalizing n with
  | zero => rfl
  | succ k ih => simp [padD, ih]
theorem padD_add (n : Int) (k j : Nat) : padD n (k + j) = padD (n / 10 ^ j) k ++ padD n j := by
  induction j generalizing n with
  | zero => simp [padD]
  | succ j ih =>
    rw [show k + (j + 1) = (k + j) + 1 by omega, padD, ih, padD, List.append_assoc]
    congr 2
    rw [Int.ediv_ediv_of_nonneg (by decide), Int.pow_succ, Int.mul_comm]
theorem div10_mod (n : Int) (k : Nat) : n % 10 ^ (k + 1) / 10 = n / 10 % 10 ^ k ∧ n % 10 ^ (k + 1) % 10 = n % 10 := by
  have hp : (0 : Int) < 10 ^ k := Int.pow_pos (by decide)
  have e : (10 : Int) ^ (k + 1) = 10 * 10 ^ k := by rw [Int.pow_succ, Int.mul_comm]
  rw [e]
  have h1 := parts n 10
  have h2 := parts (n / 10) (10 ^ k)
  have r0 := Int.emod_nonneg (n / 10) (Int.ne_of_gt hp)
  have r1 := Int.emod_lt_of_pos (n / 10) hp
  generalize n / 10 / 10 ^ k = d at *
  generalize n / 10 % 10 ^ k = r at *
  have h3 : n % (10 * 10 ^ k) = 10 * r + n % 10 := by
    refine mod_of (q := d) ?_ (by omega) (by omega)
    rw [Int.mul_assoc]
    omega
  rw [h3]
  omega
theorem padD_mod (n : Int) (k : Nat) : padD (n % 10 ^ k) k = padD n k := by
  induction k generalizing n with
  | zero => rfl
  | succ k ih =>
    obtain ⟨h1, h2⟩ := div10_mod n k
    rw [padD, padD, h1, h2, ih]
theorem strip_zeros (j : Nat) (l : List Int) : strip (padD 0 j ++ l) = strip l := by
  induction j generalizing l with
  | zero => rfl
  | succ j ih =>
    rw [padD, List.append_assoc, show (0 : Int) / 10 = 0 from rfl, ih]
    rfl
theorem strip_pad0 (j : Nat) : strip (padD 0 j) = [] := by
  have := strip_zeros j []
  rwa [List.append_nil] at this
theorem p10 (k : Nat) : (0 : Int) < 10 ^ k := Int.pow_pos (by decide)
theorem p10s (k : Nat) : (10 : Int) ^ (k + 1) = 10 * 10 ^ k := by rw [Int.pow_succ, Int.mul_comm]
theorem strip_more {n : Int} {k m : Nat} (h0 : 0 ≤ n) (h : n < 10 ^ k) (hk : k ≤ m) : strip (padD n m) = strip (padD n k) := by
  obtain ⟨j, rfl⟩ : ∃ j, m = j + k := ⟨m - k, by omega⟩
  rw [padD_add, Int.ediv_eq_zero_of_lt h0 h, strip_zeros]
theorem strip_two {n : Int} {k m : Nat} (h0 : 0 ≤ n) (h : n < 10 ^ k) (h' : n < 10 ^ m) : strip (padD n m) = strip (padD n k) := by
  rcases Nat.le_total k m with hk | hk
  · exact strip_more h0 h hk
  · exact (strip_more h0 h' hk).symm
theorem strip_dec {n : Int} {k : Nat} (h0 : 0 < n) (h : n < 10 ^ k) (hn : n < 10 ^ 58) : strip (padD n k) = dec n := by
  unfold dec
  rw [if_neg (by omega)]
  exact strip_two (by omega) hn h
theorem strip_ne {l : List Int} (h : strip l ≠ []) (c : Int) : strip (l ++ [c]) = strip l ++ [c] := by
  unfold strip at *
  induction l with
  | nil => exact absurd rfl h
  | cons x l ih =>
    rw [List.cons_append, List.dropWhile_cons, List.dropWhile_cons]
    rw [List.dropWhile_cons] at h
    split
    · rw [if_pos (by assumption)] at h
      exact ih h
    · rfl
theorem strip_nil {l : List Int} (h : strip l = []) (c : Int) (hc : c ≠ 48) : strip (l ++ [c]) = [c] := by
  unfold strip at *
  induction l with
  | nil => rw [List.nil_append, List.dropWhile_cons, if_neg (by simpa using hc)]
  | cons x l ih =>
    rw [List.cons_append, List.dropWhile_cons]
    rw [List.dropWhile_cons] at h
    split
    · rw [if_pos (by assumption)] at h
      exact ih h
    · rw [if_neg (by assumption)] at h
      cases h
theorem strip_pad_ne {n : Int} {k : Nat} (h0 : 0 < n) (h : n < 10 ^ k) : strip (padD n k) ≠ [] := by
  induction k generalizing n with
  | zero => rw [Int.pow_zero] at h; omega
  | succ k ih =>
    rw [padD]
    rw [p10s] at h
    by_cases hz : n / 10 = 0
    · rw [hz, strip_nil (strip_pad0 k) _ (by omega)]; simp
    · rw [strip_ne (ih (by omega) (by omega))]; simp
/-- The digits, one by one. -/
theorem dec_rec {n : Int} (h0 : 0 ≤ n) (h : n < 10 ^ 58) : dec n = if n / 10 = 0 then [48 + n % 10] else dec (n / 10) ++ [48 + n % 10] := by
  by_cases hz : n / 10 = 0
  · rw [if_pos hz]
    by_cases h00 : n = 0
    · subst h00; rfl
    · unfold dec
      rw [if_neg (by omega), show (58 : Nat) = 57 + 1 from rfl, padD, hz, strip_nil (strip_pad0 _) _ (by omega)]
  · rw [if_neg hz]
    have hp : (10 : Int) ^ 58 = 10 * 10 ^ 57 := p10s 57
    have h57 : n / 10 < 10 ^ 57 := by rw [hp] at h; generalize (10 : Int) ^ 57 = q at *; omega
    have h58 : n / 10 < 10 ^ 58 := Int.lt_of_le_of_lt (Int.ediv_le_self _ h0) h
    rw [← strip_dec (n := n / 10) (k := 57) (by omega) h57 h58]
    unfold dec
    rw [if_neg (by omega), show (58 : Nat) = 57 + 1 from rfl, padD, strip_ne (strip_pad_ne (by omega) h57)]

/-! ### the number of digits -/
def numOf (l : List Int) : Int := l.foldl (fun v c => 10 * v + (c - 48)) 0
def isDig (c : Int) : Bool := decide (48 ≤ c ∧ c ≤ 57)
def digs (l : List Int) : Prop := ∀ c ∈ l, 48 ≤ c ∧ c ≤ 57
theorem numOf_snoc (l : List Int) (c : Int) : numOf (l ++ [c]) = 10 * numOf l + (c - 48) := by simp [numOf]
theorem digs_snoc {l : List Int} {c : Int} (h : digs (l ++ [c])) : digs l ∧ 48 ≤ c ∧ c ≤ 57 := ⟨fun x hx => h x (by simp [hx]), h c (by simp)⟩
theorem numOf_nonneg {l : List Int} (h : digs l) : 0 ≤ numOf l := by
  induction l using snoc_ind with
  | nil => exact Int.le_refl _
  | snoc l c ih => rw [numOf_snoc]; have := digs_snoc h; have := ih this.1; omega
theorem numOf_lt {l : List Int} (h : digs l) : numOf l < 10 ^ l.length := by
  induction l using snoc_ind with
  | nil => decide
  | snoc l c ih =>
    rw [numOf_snoc, List.length_append, List.length_singleton, p10s]
    have := digs_snoc h; have := ih this.1; omega
theorem numOf_app {l m : List Int} (h : digs (l ++ m)) : numOf l ≤ numOf (l ++ m) := by
  induction m using snoc_ind with
  | nil => simp
  | snoc m c ih =>
    rw [← List.append_assoc] at h ⊢
    rw [numOf_snoc]
    have h1 := digs_snoc h
    have := ih h1.1
    have h2 : digs l := fun x hx => h1.1 x (by simp [hx])
    have := numOf_nonneg h2
    omega
theorem numOf_cons {l : List Int} {c : Int} (h : digs (c :: l)) (hc : c ≠ 48) : 10 ^ l.length ≤ numOf (c :: l) := by
  induction l using snoc_ind with
  | nil => have := h c (by simp); simp [numOf]; omega
  | snoc l d ih =>
    rw [show c :: (l ++ [d]) = (c :: l) ++ [d] from rfl] at h ⊢
    rw [numOf_snoc, List.length_append, List.length_singleton, p10s]
    have := digs_snoc h
    have := ih this.1
    omega
theorem dec_digs {n : Int} (h0 : 0 ≤ n) (h : n < 10 ^ 58) : digs (dec n) := by
  generalize hk : n.toNat = k
  induction k using Nat.strongRecOn generalizing n with
  | _ k ih =>
    rw [dec_rec h0 h]
    split
    · intro c hc; simp at hc; omega
    · have := ih (n / 10).toNat (by omega) (n := n / 10) (by omega) (Int.lt_of_le_of_lt (Int.ediv_le_self _ h0) h) rfl
      intro c hc
      rcases List.mem_append.1 hc with hc | hc
      · exact this c hc
      · simp at hc; omega
theorem numOf_dec {n : Int} (h0 : 0 ≤ n) (h : n < 10 ^ 58) : numOf (dec n) = n := by
  generalize hk : n.toNat = k
  induction k using Nat.strongRecOn generalizing n with
  | _ k ih =>
    rw [dec_rec h0 h]
    split
    · simp [numOf]; omega
    · have := ih (n / 10).toNat (by omega) (n := n / 10) (by omega) (Int.lt_of_le_of_lt (Int.ediv_le_self _ h0) h) rfl
      rw [numOf_snoc, this]; omega
theorem dec_ne {n : Int} (h0 : 0 ≤ n) (h : n < 10 ^ 58) : dec n ≠ [] := by
  rw [dec_rec h0 h]; split <;> simp
theorem dec_length {n : Int} (h0 : 0 ≤ n) (h : n < 10 ^ 58) : (dec n).length ≤ 58 := by
  unfold dec
  split
  · simp
  · unfold strip
    have := (List.dropWhile_sublist (fun x : Int => x == 48) (l := padD n 58)).length_le
    rw [padD_length] at this
    exact this
/-- Digits that begin with no 0, or are one. -/
def canon (l : List Int) : Prop := l ≠ [] ∧ digs l ∧ (l.length = 1 ∨ l.head? ≠ some 48)
theorem dec_canon {n : Int} (h0 : 0 ≤ n) (h : n < 10 ^ 58) : canon (dec n) := by
  refine ⟨dec_ne h0 h, dec_digs h0 h, ?_⟩
  unfold dec
  split
  · exact .inl rfl
  · right
    unfold strip
    generalize padD n 58 = l
    induction l with
    | nil => simp
    | cons x l ih =>
      rw [List.dropWhile_cons]
      split
      · exact ih
      · rename_i hx; simpa using hx
theorem dec_numOf {l : List Int} (h : canon l) (hl : numOf l < 10 ^ 58) : dec (numOf l) = l := by
  induction l using snoc_ind with
  | nil => exact absurd rfl h.1
  | snoc m c ih =>
    obtain ⟨_, hd, hh⟩ := h
    have hd2 := digs_snoc hd
    have hn := numOf_nonneg hd
    have hm := numOf_nonneg hd2.1
    rw [dec_rec hn hl, numOf_snoc]
    have e1 : (10 * numOf m + (c - 48)) / 10 = numOf m := by omega
    have e2 : 48 + (10 * numOf m + (c - 48)) % 10 = c := by omega
    rw [e1, e2]
    by_cases hz : m = []
    · subst hz; simp [numOf]
    · obtain ⟨x, m', rfl⟩ : ∃ x m', m = x :: m' := by cases m with | nil => exact absurd rfl hz | cons x m' => exact ⟨x, m', rfl⟩
      have hx : x ≠ 48 := by
        rcases hh with hh | hh
        · simp at hh
        · simpa using hh
      have := numOf_cons hd2.1 hx
      have := p10 m'.length
      rw [if_neg (by omega), ih ⟨by simp, hd2.1, .inr (by simpa using hx)⟩ (by rw [numOf_snoc] at hl; omega)]
/-- Is a text a number's? -/
def parseOk (l : List Int) : Bool := decide (l ≠ [] ∧ l.length ≤ 58 ∧ (∀ c ∈ l, 48 ≤ c ∧ c ≤ 57) ∧ numOf l < 6277101735386680763835789423207666416102355444464034512896 ∧ dec (numOf l) = l)
def parseV (l : List Int) : Int := if parseOk l = true then numOf l else 0
theorem top58 : (6277101735386680763835789423207666416102355444464034512896 : Int) < 10 ^ 58 := by decide
theorem parse_iff (l : List Int) : parseOk l = true ↔ canon l ∧ l.length ≤ 60 ∧ numOf l < 6277101735386680763835789423207666416102355444464034512896 := by
  unfold parseOk
  rw [decide_eq_true_eq]
  constructor
  · rintro ⟨h1, h2, h3, h4, h5⟩
    refine ⟨?_, by omega, h4⟩
    rw [← h5]
    exact dec_canon (numOf_nonneg h3) (Int.lt_trans h4 top58)
  · rintro ⟨hc, h2, h3⟩
    have h58 := Int.lt_trans h3 top58
    have hd := dec_numOf hc h58
    refine ⟨hc.1, ?_, hc.2.1, h3, hd⟩
    rw [← hd]
    exact dec_length (numOf_nonneg hc.2.1) h58
theorem parse_dec {n : Int} (h : U192 n) : parseOk (dec n) = true ∧ parseV (dec n) = n := by
  have h58 := Int.lt_trans h.2 top58
  have e := numOf_dec h.1 h58
  have : parseOk (dec n) = true := (parse_iff _).2 ⟨dec_canon h.1 h58, by have := dec_length h.1 h58; omega, by rw [e]; exact h.2⟩
  exact ⟨this, by unfold parseV; rw [if_pos this, e]⟩
theorem parseV_u (l : List Int) : U192 (parseV l) := by
  unfold parseV
  split
  · rename_i h
    obtain ⟨h1, h2, h3⟩ := (parse_iff l).1 h
    exact ⟨numOf_nonneg h1.2.1, h3⟩
  · exact ⟨by omega, by omega⟩
end Go.Proofs.Ytljcingmjemohaa.MText
namespace Go.Proofs.Ytljcingmjemohaa.MDiv
open Go Go.Proofs.Ytljcingmjemohaa.MWide Go.Proofs.Ytljcingmjemohaa.MText
set_option linter.unusedVariables false
set_option linter.unusedSimpArgs false
/-- So far is half a quotient known: not too little, and what is left with it. -/
def Guess (n q r : Int) : Prop := 0 ≤ r ∧ r < 4294967296 ∧ n / 4294967296 = q * 2328306436 + r ∧ n / 10000000000000000000 ≤ q ∧ q ≤ 4294967296
theorem guess_0 {hi u : Int} (h0 : 0 ≤ hi) (h1 : hi < 10000000000000000000) (u0 : 0 ≤ u) (u1 : u < 4294967296) : Guess (hi * 4294967296 + u) (hi / 2328306436) (hi - hi / 2328306436 * 2328306436) := by
  unfold Guess; omega
/-- The test says no: it is the quotient. -/
theorem guess_done {n q r : Int} (h : Guess n q r) (hq : q < 4294967296) (ht : q * 2313682944 ≤ 4294967296 * r + n % 4294967296) : q = n / 10000000000000000000 := by
  unfold Guess at h; omega
/-- The test says yes: it is one too many. -/
theorem guess_more {n q r : Int} (h : Guess n q r) (hn : n < 42949672960000000000000000000) (ht : 4294967296 ≤ q ∨ 4294967296 * r + n % 4294967296 < q * 2313682944) : n / 10000000000000000000 ≤ q - 1 := by
  unfold Guess at h; omega
theorem guess_next {n q r : Int} (h : Guess n q r) (hn : n < 42949672960000000000000000000) (ht : 4294967296 ≤ q ∨ 4294967296 * r + n % 4294967296 < q * 2313682944) (hr : r + 2328306436 < 4294967296) : Guess n (q - 1) (r + 2328306436) := by
  have := guess_more h hn ht
  unfold Guess at *; omega
theorem guess_break {n q r : Int} (h : Guess n q r) (hn : n < 42949672960000000000000000000) (ht : 4294967296 ≤ q ∨ 4294967296 * r + n % 4294967296 < q * 2313682944) (hr : 4294967296 ≤ r + 2328306436) : q - 1 = n / 10000000000000000000 := by
  have := guess_more h hn ht
  unfold Guess at *; omega
theorem guess_b {n q r : Int} (h : Guess n q r) (hn0 : 0 ≤ n) : 0 ≤ q ∧ q ≤ 4294967296 ∧ 0 ≤ r ∧ r < 4294967296 := by unfold Guess at h; omega
/-- What is left behind half a quotient. -/
theorem half_rest (n : Int) (h0 : 0 ≤ n) (h : n < 42949672960000000000000000000) : ((n / 4294967296 * 4294967296 % 18446744073709551616 + n % 4294967296) % 18446744073709551616 - n / 10000000000000000000 * 10000000000000000000 % 18446744073709551616) % 18446744073709551616 = n % 10000000000000000000 := by omega
/-- Both halves together. -/
theorem both {hi lo n m : Int} (h0 : 0 ≤ hi) (h1 : hi < 10000000000000000000) (l0 : 0 ≤ lo) (l1 : lo < 18446744073709551616)
    (hn : n = hi * 4294967296 + lo / 4294967296) (hm : m = n % 10000000000000000000 * 4294967296 + lo % 4294967296) :
    n / 10000000000000000000 * 4294967296 + m / 10000000000000000000 = (hi * 18446744073709551616 + lo) / 10000000000000000000 ∧ m % 10000000000000000000 = (hi * 18446744073709551616 + lo) % 10000000000000000000 ∧
    0 ≤ n ∧ n < 42949672960000000000000000000 ∧ 0 ≤ m ∧ m < 42949672960000000000000000000 := by omega
/-- Three words, from the highest on. -/
theorem parted_words {n : Int} (h : U192 n) (r2 r1 q2 q1 q0 : Int) (e2 : q2 = w2 n / 10000000000000000000) (f2 : r2 = w2 n % 10000000000000000000) (e1 : q1 = (r2 * 18446744073709551616 + w1 n) / 10000000000000000000) (f1 : r1 = (r2 * 18446744073709551616 + w1 n) % 10000000000000000000)
    (e0 : q0 = (r1 * 18446744073709551616 + w0 n) / 10000000000000000000) :
    w0 (n / 10000000000000000000) = q0 ∧ w1 (n / 10000000000000000000) = q1 ∧ w2 (n / 10000000000000000000) = q2 ∧ (r1 * 18446744073709551616 + w0 n) % 10000000000000000000 = n % 10000000000000000000 := by
  have e := of3_w h
  have a := w0_64 n; have b := w1_64 n; have c := w2_64 n
  generalize w0 n = x at *; generalize w1 n = y at *; generalize w2 n = z at *
  unfold of3 at e
  unfold W64 at *
  have hq : n / 10000000000000000000 = of3 q0 q1 q2 := by unfold of3; omega
  rw [hq, w0_of3 ⟨by omega, by omega⟩ ⟨by omega, by omega⟩ ⟨by omega, by omega⟩, w1_of3 ⟨by omega, by omega⟩ ⟨by omega, by omega⟩ ⟨by omega, by omega⟩, w2_of3 ⟨by omega, by omega⟩ ⟨by omega, by omega⟩ ⟨by omega, by omega⟩]
  omega
theorem parted_u {n : Int} (h : U192 n) : U192 (n / 10000000000000000000) := by unfold U192 at *; omega
/-- Ten times a number and a digit, a word at a time; what is carried on from each word. -/
theorem more_words {n d : Int} (h : U192 n) (d0 : 0 ≤ d) (d1 : d ≤ 9) (c0 c1 c2 : Int)
    (h0 : c0 = w0 n * 10 / 18446744073709551616 + (w0 n * 10 % 18446744073709551616 + d) / 18446744073709551616)
    (h1 : c1 = w1 n * 10 / 18446744073709551616 + (w1 n * 10 % 18446744073709551616 + c0) / 18446744073709551616)
    (h2 : c2 = w2 n * 10 / 18446744073709551616 + (w2 n * 10 % 18446744073709551616 + c1) / 18446744073709551616) :
    (0 ≤ c0 ∧ c0 ≤ 9) ∧ (0 ≤ c1 ∧ c1 ≤ 9) ∧ (0 ≤ c2 ∧ c2 ≤ 9) ∧ (c2 = 0 ↔ 10 * n + d < 6277101735386680763835789423207666416102355444464034512896) ∧
    ((w0 n * 10 % 18446744073709551616 + d) % 18446744073709551616 = w0 (10 * n + d) ∧ (w1 n * 10 % 18446744073709551616 + c0) % 18446744073709551616 = w1 (10 * n + d) ∧ (w2 n * 10 % 18446744073709551616 + c1) % 18446744073709551616 = w2 (10 * n + d)) := by
  have e := of3_w h
  have a := w0_64 n; have b := w1_64 n; have c := w2_64 n
  generalize w0 n = x at *; generalize w1 n = y at *; generalize w2 n = z at *
  subst e
  unfold W64 at *
  have k0 : 0 ≤ c0 ∧ c0 ≤ 9 := by omega
  have k1 : 0 ≤ c1 ∧ c1 ≤ 9 := by omega
  have k2 : 0 ≤ c2 ∧ c2 ≤ 9 := by omega
  obtain ⟨m0, g0, v0⟩ : ∃ m, (x * 10 % 18446744073709551616 + d) % 18446744073709551616 = m ∧ W64 m := ⟨_, rfl, by unfold W64; omega⟩
  obtain ⟨m1, g1, v1⟩ : ∃ m, (y * 10 % 18446744073709551616 + c0) % 18446744073709551616 = m ∧ W64 m := ⟨_, rfl, by unfold W64; omega⟩
  obtain ⟨m2, g2, v2⟩ : ∃ m, (z * 10 % 18446744073709551616 + c1) % 18446744073709551616 = m ∧ W64 m := ⟨_, rfl, by unfold W64; omega⟩
  have i0 : 10 * x + d = 18446744073709551616 * c0 + m0 := by omega
  have i1 : 10 * y + c0 = 18446744073709551616 * c1 + m1 := by omega
  have i2 : 10 * z + c1 = 18446744073709551616 * c2 + m2 := by omega
  rw [g0, g1, g2]
  clear g0 g1 g2 h0 h1 h2
  have i : 10 * of3 x y z + d = of3 m0 m1 m2 + 6277101735386680763835789423207666416102355444464034512896 * c2 := by unfold of3; omega
  refine ⟨k0, k1, k2, ?_, ?_⟩
  · rw [i]; unfold of3; unfold W64 at *; omega
  · rw [i]; unfold of3 w0 w1 w2; unfold W64 at *
    have h1 : (m0 + 18446744073709551616 * m1 + 340282366920938463463374607431768211456 * m2 + 6277101735386680763835789423207666416102355444464034512896 * c2) / 18446744073709551616 = m1 + 18446744073709551616 * (m2 + 18446744073709551616 * c2) := by omega
    have h2 : (m0 + 18446744073709551616 * m1 + 340282366920938463463374607431768211456 * m2 + 6277101735386680763835789423207666416102355444464034512896 * c2) / 340282366920938463463374607431768211456 = m2 + 18446744073709551616 * c2 := by omega
    rw [h1, h2]
    omega
end Go.Proofs.Ytljcingmjemohaa.MDiv
namespace Go.Proofs.Ytljcingmjemohaa.MBox
open Go Go.Proofs.Ytljcingmjemohaa.MWide
set_option linter.unusedVariables false
set_option linter.unusedSimpArgs false

structure Bx where
  no : Bool
  lx : Int
  ly : Int
  hx : Int
  hy : Int
theorem Bx.ext' {a b : Bx} (h0 : a.no = b.no) (h1 : a.lx = b.lx) (h2 : a.ly = b.ly) (h3 : a.hx = b.hx) (h4 : a.hy = b.hy) : a = b := by
  cases a; cases b; simp_all
def I64 (n : Int) : Prop := -9223372036854775808 ≤ n ∧ n ≤ 9223372036854775807
/-- Its numbers are a machine's. -/
def Bx.ok (b : Bx) : Prop := I64 b.lx ∧ I64 b.ly ∧ I64 b.hx ∧ I64 b.hy
def noneB : Bx := ⟨true, 0, 0, 0, 0⟩
def zeroB : Bx := ⟨false, 0, 0, 0, 0⟩
theorem noneB_ok : noneB.ok := by unfold Bx.ok noneB I64; simp
/-- Alike in all. -/
def same (a b : Bx) : Bool := a.no == b.no && (a.lx == b.lx && (a.ly == b.ly && (a.hx == b.hx && a.hy == b.hy)))
theorem same_iff (a b : Bx) : same a b = true ↔ a = b := by
  unfold same
  simp only [Bool.and_eq_true, beq_iff_eq]
  constructor
  · rintro ⟨h0, h1, h2, h3, h4⟩; exact Bx.ext' h0 h1 h2 h3 h4
  · rintro rfl; simp
theorem same_refl (a : Bx) : same a a = true := (same_iff a a).2 rfl
theorem same_symm (a b : Bx) : same a b = same b a := by
  rw [Bool.eq_iff_iff, same_iff, same_iff]; exact eq_comm
def has (b : Bx) : Bool := !b.no && (decide (b.lx ≤ b.hx) && decide (b.ly ≤ b.hy))
def good (b : Bx) : Bool := if b.no = true then same b noneB else decide (b.lx ≤ b.hx) && decide (b.ly ≤ b.hy)
theorem has_good (b : Bx) : (!b.no && good b) = has b := by
  unfold has good; cases b.no <;> simp
theorem has_good' (b : Bx) : (good b && !b.no) = has b := by rw [Bool.and_comm, has_good]
theorem has_iff (b : Bx) : has b = true ↔ b.no = false ∧ b.lx ≤ b.hx ∧ b.ly ≤ b.hy := by
  unfold has; simp
def mn (a b : Int) : Int := if a < b then a else b
def mx (a b : Int) : Int := if a < b then b else a
theorem mn_iff (a b : Int) : mn a b ≤ a ∧ mn a b ≤ b ∧ (mn a b = a ∨ mn a b = b) := by unfold mn; split <;> omega
theorem mx_iff (a b : Int) : a ≤ mx a b ∧ b ≤ mx a b ∧ (mx a b = a ∨ mx a b = b) := by unfold mx; split <;> omega
theorem mn_comm (a b : Int) : mn a b = mn b a := by have := mn_iff a b; have := mn_iff b a; omega
theorem mx_comm (a b : Int) : mx a b = mx b a := by have := mx_iff a b; have := mx_iff b a; omega
def both (a b : Bx) : Bx := ⟨false, mn a.lx b.lx, mn a.ly b.ly, mx a.hx b.hx, mx a.hy b.hy⟩
def union (a b : Bx) : Bx := if has a = true then if has b = true then both a b else a else if has b = true then b else noneB
theorem union_ok {a b : Bx} (ha : a.ok) (hb : b.ok) : (union a b).ok := by
  unfold union
  split
  · split
    · unfold both Bx.ok I64 at *
      have := mn_iff a.lx b.lx; have := mn_iff a.ly b.ly; have := mx_iff a.hx b.hx; have := mx_iff a.hy b.hy
      simp only; omega
    · exact ha
  · split
    · exact hb
    · exact noneB_ok
theorem has_both {a b : Bx} (ha : has a = true) (hb : has b = true) : has (both a b) = true := by
  rw [has_iff] at *
  unfold both
  have := mn_iff a.lx b.lx; have := mn_iff a.ly b.ly; have := mx_iff a.hx b.hx; have := mx_iff a.hy b.hy
  refine ⟨rfl, ?_, ?_⟩ <;> simp only <;> omega
theorem has_none : has noneB = false := rfl
theorem has_union (a b : Bx) : has (union a b) = (has a || has b) := by
  unfold union
  cases ha : has a <;> cases hb : has b <;> simp [ha, hb, has_none, has_both]
theorem union_comm (a b : Bx) : union a b = union b a := by
  unfold union
  cases ha : has a <;> cases hb : has b <;> simp
  unfold both
  exact Bx.ext' rfl (mn_comm _ _) (mn_comm _ _) (mx_comm _ _) (mx_comm _ _)
def meets (a b : Bx) : Bool := has a && (has b && (decide (a.lx ≤ b.hx) && (decide (b.lx ≤ a.hx) && (decide (a.ly ≤ b.hy) && decide (b.ly ≤ a.hy)))))
theorem meets_iff (a b : Bx) : meets a b = true ↔ has a = true ∧ has b = true ∧ a.lx ≤ b.hx ∧ b.lx ≤ a.hx ∧ a.ly ≤ b.hy ∧ b.ly ≤ a.hy := by unfold meets; simp
theorem meets_comm (a b : Bx) : meets a b = meets b a := by
  rw [Bool.eq_iff_iff, meets_iff, meets_iff]; constructor <;> (rintro ⟨h1, h2, h3, h4, h5, h6⟩; exact ⟨h2, h1, h4, h3, h6, h5⟩)
/-- The program's way: no side of what both have is empty. -/
theorem meets_sides (a b : Bx) (ha : has a = true) (hb : has b = true) : meets a b = (!decide (mn a.hx b.hx < mx a.lx b.lx) && !decide (mn a.hy b.hy < mx a.ly b.ly)) := by
  have h1 := (has_iff a).1 ha
  have h2 := (has_iff b).1 hb
  rw [Bool.eq_iff_iff, meets_iff]
  have := mn_iff a.hx b.hx; have := mn_iff a.hy b.hy; have := mx_iff a.lx b.lx; have := mx_iff a.ly b.ly
  simp only [Bool.and_eq_true, Bool.not_eq_true', decide_eq_false_iff_not, ha, hb, true_and]
  omega
def holds (a b : Bx) : Bool := !has b || (has a && (decide (a.lx ≤ b.lx) && (decide (b.hx ≤ a.hx) && (decide (a.ly ≤ b.ly) && decide (b.hy ≤ a.hy)))))
theorem holds_iff (a b : Bx) : holds a b = true ↔ has b = false ∨ (has a = true ∧ a.lx ≤ b.lx ∧ b.hx ≤ a.hx ∧ a.ly ≤ b.ly ∧ b.hy ≤ a.hy) := by unfold holds; simp
/-- The program's way: around both is what one is. -/
theorem holds_union (a b : Bx) : holds a b = (!has b || (has a && same (union a b) a)) := by
  rw [Bool.eq_iff_iff, holds_iff]
  simp only [Bool.or_eq_true, Bool.not_eq_true', Bool.and_eq_true, same_iff]
  cases hb : has b with
  | false => simp
  | true =>
    simp only [Bool.true_eq_false, false_or]
    constructor
    · rintro ⟨ha, h1, h2, h3, h4⟩
      refine ⟨ha, ?_⟩
      unfold union
      rw [if_pos ha, if_pos hb]
      have hh := (has_iff a).1 ha
      have := mn_iff a.lx b.lx; have := mn_iff a.ly b.ly; have := mx_iff a.hx b.hx; have := mx_iff a.hy b.hy
      unfold both
      refine Bx.ext' hh.1.symm ?_ ?_ ?_ ?_ <;> simp only <;> omega
    · rintro ⟨ha, h⟩
      refine ⟨ha, ?_⟩
      unfold union at h
      rw [if_pos ha, if_pos hb] at h
      have := mn_iff a.lx b.lx; have := mn_iff a.ly b.ly; have := mx_iff a.hx b.hx; have := mx_iff a.hy b.hy
      unfold both at h
      have e1 := congrArg Bx.lx h; have e2 := congrArg Bx.ly h; have e3 := congrArg Bx.hx h; have e4 := congrArg Bx.hy h
      simp only at e1 e2 e3 e4
      omega
theorem holds_l (a b : Bx) : holds (union a b) a = true := by
  rw [holds_iff]
  cases ha : has a with
  | false => exact .inl rfl
  | true =>
    refine .inr ⟨by rw [has_union, ha]; rfl, ?_⟩
    unfold union
    rw [if_pos ha]
    split
    · have := mn_iff a.lx b.lx; have := mn_iff a.ly b.ly; have := mx_iff a.hx b.hx; have := mx_iff a.hy b.hy
      unfold both; simp only; omega
    · omega
theorem holds_r (a b : Bx) : holds (union a b) b = true := by rw [union_comm]; exact holds_l b a
theorem meets_union {a c : Bx} (b : Bx) (h : meets a c = true) : meets (union a b) c = true := by
  rw [meets_iff] at *
  obtain ⟨ha, hc, h1, h2, h3, h4⟩ := h
  refine ⟨by rw [has_union, ha]; rfl, hc, ?_⟩
  unfold union
  rw [if_pos ha]
  split
  · have := mn_iff a.lx b.lx; have := mn_iff a.ly b.ly; have := mx_iff a.hx b.hx; have := mx_iff a.hy b.hy
    unfold both; simp only; omega
  · omega
def equal (a b : Bx) : Bool := if has a != has b then false else !has a || same a b
theorem equal_ref (a b : Bx) : ((!has a && !has b) || (has a && (has b && same a b))) = equal a b := by
  unfold equal; cases has a <;> cases has b <;> simp
theorem equal_refl (a : Bx) : equal a a = true := by unfold equal; simp [same_refl]
theorem holds_equal {a b : Bx} (h : holds a b = true) : equal (union a b) a = true := by
  rw [holds_union] at h
  cases hb : has b with
  | true =>
    rw [hb] at h
    simp only [Bool.not_true, Bool.false_or, Bool.and_eq_true, same_iff] at h
    rw [h.2]; exact equal_refl a
  | false =>
    cases ha : has a with
    | true => unfold union; rw [if_pos ha, if_neg (by simp [hb])]; exact equal_refl a
    | false => unfold equal; simp [has_union, ha, hb]

/-! ### areas -/
def side (l h : Int) : Int := h - l
def area (b : Bx) : Int := if has b = true then (b.hx - b.lx) * (b.hy - b.ly) else 0
theorem side_64 {b : Bx} (h : b.ok) (hb : has b = true) : W64 (b.hx - b.lx) ∧ W64 (b.hy - b.ly) := by
  have := (has_iff b).1 hb
  unfold Bx.ok I64 at h
  unfold W64; omega
theorem area_u {b : Bx} (h : b.ok) : 0 ≤ area b ∧ area b < 340282366920938463463374607431768211456 := by
  unfold area
  split
  · rename_i hb
    obtain ⟨h1, h2⟩ := side_64 h hb
    exact w_mul h1 h2
  · omega
theorem area_192 {b : Bx} (h : b.ok) : U192 (area b) := by have := area_u h; unfold U192; omega
theorem area_mono (a b : Bx) : area a ≤ area (union a b) := by
  cases ha : has a with
  | false =>
    rw [show area a = 0 by unfold area; rw [if_neg (by simp [ha])]]
    unfold area
    split
    · rename_i h
      have := (has_iff _).1 h
      exact Int.mul_nonneg (by omega) (by omega)
    · exact Int.le_refl _
  | true =>
    have h1 := (holds_iff _ _).1 (holds_l a b)
    rw [ha] at h1
    simp only [Bool.true_eq_false, false_or] at h1
    obtain ⟨h2, h3, h4, h5, h6⟩ := h1
    have h7 := (has_iff a).1 ha
    unfold area
    rw [if_pos ha, if_pos h2]
    exact Int.mul_le_mul (by omega) (by omega) (by omega) (by omega)
def growth (a b : Bx) : Int := area (union a b) - area a
theorem growth_u {a b : Bx} (ha : a.ok) (hb : b.ok) : U192 (growth a b) := by
  have h1 := area_mono a b
  have h2 := area_192 (union_ok ha hb)
  have h3 := area_192 ha
  unfold growth U192 at *; omega
theorem growth_sub {a b : Bx} : subV (area (union a b)) (area a) = growth a b := by
  unfold subV subOk growth
  rw [if_pos (by simpa using area_mono a b)]
/-- How much neither has, and whether that is below 0. -/
def wasteN (a b : Bx) : Bool := decide (area (union a b) < area a + area b)
def waste (a b : Bx) : Int := if wasteN a b = true then area a + area b - area (union a b) else area (union a b) - (area a + area b)
theorem waste_u {a b : Bx} (ha : a.ok) (hb : b.ok) : U192 (waste a b) := by
  have h2 := area_u (union_ok ha hb)
  have h3 := area_u ha
  have h4 := area_u hb
  unfold waste wasteN U192 at *
  split
  · rename_i h; simp only [decide_eq_true_eq] at h; omega
  · rename_i h; simp only [decide_eq_true_eq] at h; omega
theorem both_u {a b : Bx} (ha : a.ok) (hb : b.ok) : U192 (area a + area b) ∧ addV (area a) (area b) = area a + area b := by
  have h3 := area_u ha
  have h4 := area_u hb
  refine ⟨by unfold U192; omega, ?_⟩
  unfold addV addOk
  rw [if_pos (by simp only [decide_eq_true_eq]; omega)]
theorem growth_zero (a b : Bx) : (growth a b = 0) ↔ area (union a b) = area a := by unfold growth; omega
end Go.Proofs.Ytljcingmjemohaa.MBox
namespace Go.Proofs.Ytljcingmjemohaa.MChoose
open Go Go.Proofs.Ytljcingmjemohaa.MWide Go.Proofs.Ytljcingmjemohaa.MBox
set_option linter.unusedVariables false
set_option linter.unusedSimpArgs false

structure En where
  id : Int
  bx : Bx
def En0 : En := ⟨0, zeroB⟩
/-- May entries be? -/
def goodL (l : List En) : Bool := decide (l.length ≤ 64) && l.all (fun e => has e.bx)
def bxAt (l : List En) (i : Nat) : Bx := (l.getD i En0).bx
theorem bxAt_has {l : List En} (h : goodL l = true) {i : Nat} (hi : i < l.length) : has (bxAt l i) = true := by
  unfold goodL at h
  simp only [Bool.and_eq_true, List.all_eq_true] at h
  refine h.2 _ ?_
  rw [List.getD_eq_getElem?_getD, List.getElem?_eq_getElem hi]
  exact List.getElem_mem hi

/-! ### the best of so many -/
def bestTo (better : Nat → Nat → Bool) : Nat → Int
  | 0 => -1
  | k + 1 => if bestTo better k < 0 ∨ better k (bestTo better k).toNat = true then (k : Int) else bestTo better k
theorem bestTo_range (better : Nat → Nat → Bool) (k : Nat) : -1 ≤ bestTo better k ∧ bestTo better k < k ∧ (0 < k → 0 ≤ bestTo better k) := by
  induction k with
  | zero => simp [bestTo]
  | succ k ih =>
    rw [bestTo]
    split <;> omega
theorem bestTo_congr {f g : Nat → Nat → Bool} (k : Nat) (h : ∀ i j, j < i → i < k → f i j = g i j) : bestTo f k = bestTo g k := by
  induction k with
  | zero => rfl
  | succ k ih =>
    have e := ih (fun i j h1 h2 => h i j h1 (by omega))
    rw [bestTo, bestTo, e]
    have hr := bestTo_range g k
    by_cases h0 : bestTo g k < 0
    · rw [if_pos (.inl h0), if_pos (.inl h0)]
    · rw [h k (bestTo g k).toNat (by omega) (by omega)]
/-- Nothing is before the best, where it is told by a number that two orders agree on. -/
theorem bestTo_least (better : Nat → Nat → Bool) (key : Nat → Int) (hb : ∀ i j, better i j = true → key i ≤ key j) (hn : ∀ i j, better i j = false → key j ≤ key i) (k : Nat) (i : Nat) (hi : i < k) : key (bestTo better k).toNat ≤ key i := by
  induction k with
  | zero => omega
  | succ k ih =>
    rw [bestTo]
    have hr := bestTo_range better k
    split
    · rename_i h
      rw [Int.toNat_natCast]
      rcases Nat.lt_or_eq_of_le (Nat.le_of_lt_succ hi) with hlt | rfl
      · rcases h with h | h
        · omega
        · exact Int.le_trans (hb _ _ h) (ih hlt)
      · exact Int.le_refl _
    · rename_i h
      rcases Nat.lt_or_eq_of_le (Nat.le_of_lt_succ hi) with hlt | rfl
      · exact ih hlt
      · refine hn _ _ ?_
        rcases hbb : better i (bestTo better i).toNat with _ | _
        · rfl
        · exact absurd (.inr hbb) h

/-! ### the entry that grows least -/
theorem lexi_lt {x y c : Int} (h : (if cmpV x y ≠ 0 then cmpV x y else c) < 0) : x ≤ y := by
  unfold cmpV at h
  rcases Int.lt_trichotomy x y with hc | hc | hc
  · omega
  · omega
  · rw [if_neg (show ¬ x < y by omega), if_neg (show ¬ x = y by omega)] at h
    simp at h
theorem lexi_ge {x y c : Int} (h : ¬ (if cmpV x y ≠ 0 then cmpV x y else c) < 0) : y ≤ x := by
  unfold cmpV at h
  rcases Int.lt_trichotomy x y with hc | hc | hc
  · rw [if_pos hc] at h
    simp at h
  · omega
  · omega
def ordP (l : List En) (b : Bx) (i j : Nat) : Int :=
  if cmpV (growth (bxAt l i) b) (growth (bxAt l j) b) ≠ 0 then cmpV (growth (bxAt l i) b) (growth (bxAt l j) b) else cmpV (area (bxAt l i)) (area (bxAt l j))
def betterP (l : List En) (b : Bx) (i j : Nat) : Bool := decide (ordP l b i j < 0)
def pickV (l : List En) (b : Bx) : Int := if (goodL l && has b) = true then bestTo (betterP l b) l.length else -1
theorem pick_least {l : List En} {b : Bx} (i : Nat) (hi : i < l.length) : growth (bxAt l (bestTo (betterP l b) l.length).toNat) b ≤ growth (bxAt l i) b := by
  refine bestTo_least (betterP l b) (fun i => growth (bxAt l i) b) ?_ ?_ l.length i hi
  · intro i j h
    simp only [betterP, ordP] at h
    exact lexi_lt (of_decide_eq_true h)
  · intro i j h
    simp only [betterP, ordP] at h
    exact lexi_ge (of_decide_eq_false h)

/-! ### the two that waste most -/
/-- What two waste, with its sign. -/
def sw (a b : Bx) : Int := area (union a b) - (area a + area b)
theorem sw_comm (a b : Bx) : sw a b = sw b a := by unfold sw; rw [union_comm]; omega
theorem waste_sw (a b : Bx) : wasteN a b = decide (sw a b < 0) ∧ waste a b = (if sw a b < 0 then - sw a b else sw a b) := by
  unfold waste wasteN sw
  refine ⟨by rw [decide_eq_decide]; omega, ?_⟩
  simp only [decide_eq_true_eq]
  split <;> split <;> omega
/-- Is one waste above another one? -/
def above (a b c d : Bx) : Bool := decide (sw c d < sw a b)
theorem above_ref (a b c d : Bx) : above a b c d = (if wasteN a b != wasteN c d then wasteN c d else if wasteN a b then decide (waste a b < waste c d) else decide (waste c d < waste a b)) := by
  obtain ⟨h1, h2⟩ := waste_sw a b
  obtain ⟨h3, h4⟩ := waste_sw c d
  unfold above
  rw [h1, h3, h2, h4]
  generalize sw a b = x at *
  generalize sw c d = y at *
  by_cases hx : x < 0 <;> by_cases hy : y < 0 <;> simp [hx, hy] <;> omega
def seedStep (l : List En) (st : Int × Int) (i j : Nat) : Int × Int := if st.1 < 0 ∨ above (bxAt l i) (bxAt l j) (bxAt l st.1.toNat) (bxAt l st.2.toNat) = true then ((i : Int), (j : Int)) else st
def seedRow (l : List En) (i : Nat) (st : Int × Int) : Nat → Int × Int
  | 0 => st
  | k + 1 => seedStep l (seedRow l i st k) i (i + 1 + k)
def seedAll (l : List En) (st : Int × Int) : Nat → Int × Int
  | 0 => st
  | i + 1 => seedRow l i (seedAll l st i) (l.length - (i + 1))
def seedsV (l : List En) : Int × Int := if goodL l = true then seedAll l (-1, -1) l.length else (-1, -1)
/-- What a state of the search may be: none yet, or a pair. -/
def Pair (n : Nat) (st : Int × Int) : Prop := (st.1 = -1 ∧ st.2 = -1) ∨ (0 ≤ st.1 ∧ st.1 < st.2 ∧ st.2 < n)
theorem step_pair {l : List En} {st : Int × Int} {i j : Nat} (hs : Pair l.length st) (h : i < j) (hj : j < l.length) : Pair l.length (seedStep l st i j) := by
  unfold seedStep
  split
  · refine .inr ⟨?_, ?_, ?_⟩ <;> simp only <;> omega
  · exact hs
theorem row_pair {l : List En} {st : Int × Int} {i : Nat} (hs : Pair l.length st) (k : Nat) (hk : i + 1 + k ≤ l.length) : Pair l.length (seedRow l i st k) := by
  induction k with
  | zero => exact hs
  | succ k ih => exact step_pair (ih (by omega)) (by omega) (by omega)
theorem all_pair {l : List En} {st : Int × Int} (hs : Pair l.length st) (i : Nat) (hi : i ≤ l.length) : Pair l.length (seedAll l st i) := by
  induction i with
  | zero => exact hs
  | succ i ih => exact row_pair (ih (by omega)) _ (by omega)
/-- What a state holds against a pair that has been looked at. -/
def Beats (l : List En) (st : Int × Int) (x y : Nat) : Prop := 0 ≤ st.1 ∧ sw (bxAt l x) (bxAt l y) ≤ sw (bxAt l st.1.toNat) (bxAt l st.2.toNat)
theorem step_self (l : List En) (st : Int × Int) (i j : Nat) : Beats l (seedStep l st i j) i j := by
  unfold seedStep Beats
  split
  · simp
  · rename_i h
    unfold above at h
    simp only [decide_eq_true_eq] at h
    omega
theorem step_keeps {l : List En} {st : Int × Int} {x y : Nat} (i j : Nat) (h : Beats l st x y) : Beats l (seedStep l st i j) x y := by
  unfold seedStep
  split
  · rename_i hc
    unfold Beats above at *
    simp only [decide_eq_true_eq] at hc
    simp only [Int.toNat_natCast]
    omega
  · exact h
theorem row_keeps {l : List En} {st : Int × Int} {x y : Nat} (i k : Nat) (h : Beats l st x y) : Beats l (seedRow l i st k) x y := by
  induction k with
  | zero => exact h
  | succ k ih => exact step_keeps _ _ ih
theorem row_self (l : List En) (st : Int × Int) (i k j : Nat) (h1 : i < j) (h2 : j < i + 1 + k) : Beats l (seedRow l i st k) i j := by
  induction k with
  | zero => omega
  | succ k ih =>
    rw [seedRow]
    by_cases hj : j = i + 1 + k
    · subst hj; exact step_self _ _ _ _
    · exact step_keeps _ _ (ih (by omega))
theorem all_beats (l : List En) (st : Int × Int) (n x y : Nat) (h1 : x < y) (h2 : y < l.length) (h3 : x < n) : Beats l (seedAll l st n) x y := by
  induction n with
  | zero => omega
  | succ i ih =>
    rw [seedAll]
    by_cases hx : x = i
    · subst hx; exact row_self _ _ _ _ _ h1 (by omega)
    · exact row_keeps _ _ (ih (by omega))
/-- The document's way begins with the first two: it comes to the same. -/
theorem row_first (l : List En) (k : Nat) (hk : 0 < k) : seedRow l 0 (0, 1) k = seedRow l 0 (-1, -1) k := by
  induction k with
  | zero => omega
  | succ k ih =>
    rw [seedRow, seedRow]
    by_cases h0 : k = 0
    · subst h0
      have ha : above (bxAt l 0) (bxAt l (0 + 1 + 0)) (bxAt l 0) (bxAt l 1) = false := by simp [above]
      show seedStep l (0, 1) 0 (0 + 1 + 0) = seedStep l (-1, -1) 0 (0 + 1 + 0)
      unfold seedStep
      have h1 : ¬ (((0 : Int), (1 : Int)).1 < 0 ∨ above (bxAt l 0) (bxAt l (0 + 1 + 0)) (bxAt l ((0 : Int), (1 : Int)).1.toNat) (bxAt l ((0 : Int), (1 : Int)).2.toNat) = true) := by
        rintro (h | h)
        · exact absurd h (by decide)
        · exact absurd (ha.symm.trans h) (by decide)
      have h2 : (((-1 : Int), (-1 : Int)).1 < 0 ∨ above (bxAt l 0) (bxAt l (0 + 1 + 0)) (bxAt l ((-1 : Int), (-1 : Int)).1.toNat) (bxAt l ((-1 : Int), (-1 : Int)).2.toNat) = true) := .inl (by decide)
      rw [if_neg h1, if_pos h2]
      rfl
    · rw [ih (by omega)]
theorem all_first (l : List En) (n : Nat) (hn : 0 < n) (hl : 2 ≤ l.length) : seedAll l (0, 1) n = seedAll l (-1, -1) n := by
  induction n with
  | zero => omega
  | succ n ih =>
    rw [seedAll, seedAll]
    by_cases h0 : n = 0
    · subst h0; exact row_first l _ (by omega)
    · rw [ih (by omega)]
theorem seeds_short {l : List En} (h : l.length < 2) : seedsV l = (-1, -1) := by
  unfold seedsV
  split
  · rcases (by omega : l.length = 0 ∨ l.length = 1) with h | h <;> rw [h]
    · rfl
    · simp [seedAll, h, seedRow]
  · rfl
theorem seeds_long {l : List En} (hg : goodL l = true) (h : 2 ≤ l.length) : 0 ≤ (seedsV l).1 ∧ (seedsV l).1 < (seedsV l).2 ∧ (seedsV l).2 < l.length ∧
    ∀ x y : Nat, x < y → y < l.length → sw (bxAt l x) (bxAt l y) ≤ sw (bxAt l (seedsV l).1.toNat) (bxAt l (seedsV l).2.toNat) := by
  unfold seedsV
  rw [if_pos hg]
  have hp := all_pair (l := l) (st := (-1, -1)) (.inl ⟨rfl, rfl⟩) l.length (Nat.le_refl _)
  have hb := all_beats l (-1, -1) l.length
  have h01 := hb 0 1 (by omega) (by omega) (by omega)
  rcases hp with ⟨h1, _⟩ | ⟨h1, h2, h3⟩
  · have := h01.1; omega
  · exact ⟨h1, h2, h3, fun x y hx hy => (hb x y hx hy (by omega)).2⟩

/-! ### the next one -/
def far (l : List En) (a b : Bx) (i : Nat) : Int := (((growth a (bxAt l i) - growth b (bxAt l i)).natAbs : Nat) : Int)
def apartV (a b : Int) : Int := (((a - b).natAbs : Nat) : Int)
theorem apartV_u {a b : Int} (ha : U192 a) (hb : U192 b) : U192 (apartV a b) := by unfold apartV U192 at *; omega
def betterN (l : List En) (a b : Bx) (i j : Nat) : Bool := decide (far l a b j < far l a b i)
def nextI (l : List En) (a b : Bx) : Int := if (goodL l && decide (0 < l.length)) = true then bestTo (betterN l a b) l.length else -1
def nextC (l : List En) (a b : Bx) : Int :=
  if cmpV (growth a (bxAt l (nextI l a b).toNat)) (growth b (bxAt l (nextI l a b).toNat)) ≠ 0 then cmpV (growth a (bxAt l (nextI l a b).toNat)) (growth b (bxAt l (nextI l a b).toNat)) else cmpV (area a) (area b)
def nextB (l : List En) (a b : Bx) : Bool := if (goodL l && decide (0 < l.length)) = true then decide (nextC l a b ≤ 0) else false
theorem nextI_range {l : List En} (hg : goodL l = true) (h : 0 < l.length) (a b : Bx) : 0 ≤ nextI l a b ∧ nextI l a b < l.length := by
  unfold nextI
  rw [if_pos (by simp [hg, h])]
  have := bestTo_range (betterN l a b) l.length
  omega

/-! ### parted -/
def bound (l : List En) : Bx := l.foldl (fun o e => union o e.bx) noneB
theorem bound_snoc (l : List En) (e : En) : bound (l ++ [e]) = union (bound l) e.bx := by simp [bound]
/-- Entries without the k-th. -/
def without (l : List En) (k : Nat) : List En := l.take k ++ l.drop (k + 1)
def splitGo : Nat → List En → List En → List En → List En × List En
  | 0, a, b, _ => (a, b)
  | n + 1, a, b, left =>
    if left = [] then (a, b)
    else if a.length + left.length ≤ 3 then (a ++ left, b)
    else if b.length + left.length ≤ 3 then (a, b ++ left)
    else
      let k := (nextI left (bound a) (bound b)).toNat
      if nextB left (bound a) (bound b) = true then splitGo n (a ++ [left.getD k En0]) b (without left k) else splitGo n a (b ++ [left.getD k En0]) (without left k)
def splitV (l : List En) : List En × List En :=
  if (seedsV l).1 < 0 then ([], [])
  else splitGo l.length [l.getD (seedsV l).1.toNat En0] [l.getD (seedsV l).2.toNat En0] (without (without l (seedsV l).2.toNat) (seedsV l).1.toNat)
theorem without_length {l : List En} {k : Nat} (h : k < l.length) : (without l k).length = l.length - 1 := by
  unfold without
  rw [List.length_append, List.length_take, List.length_drop]; omega
theorem without_perm {l : List En} {k : Nat} (h : k < l.length) : List.Perm (l.getD k En0 :: without l k) l := by
  unfold without
  have e : l = l.take k ++ (l.getD k En0 :: l.drop (k + 1)) := by
    rw [List.getD_eq_getElem?_getD, List.getElem?_eq_getElem h, Option.getD_some, List.getElem_cons_drop, List.take_append_drop]
  conv => rhs; rw [e]
  exact (List.perm_middle).symm
theorem goodL_perm {l m : List En} (h : List.Perm l m) : goodL l = goodL m := by
  unfold goodL
  rw [h.length_eq, Bool.eq_iff_iff]
  simp only [Bool.and_eq_true, List.all_eq_true, decide_eq_true_eq]
  exact and_congr_right fun _ => ⟨fun hx x hm => hx x (h.mem_iff.2 hm), fun hx x hm => hx x (h.mem_iff.1 hm)⟩
theorem goodL_sub {l m : List En} (h : List.Sublist l m) (hg : goodL m = true) : goodL l = true := by
  unfold goodL at *
  simp only [Bool.and_eq_true, List.all_eq_true, decide_eq_true_eq] at *
  exact ⟨Nat.le_trans h.length_le hg.1, fun x hx => hg.2 x (h.mem hx)⟩
theorem without_sub (l : List En) (k : Nat) : List.Sublist (without l k) l := by
  unfold without
  conv => rhs; rw [← List.take_append_drop k l]
  exact (List.Sublist.refl _).append (by rw [← List.drop_drop]; exact List.drop_sublist _ _)
/-- What a parting comes to: each entry once, the groups' beginnings, and their least. -/
theorem split_go (n : Nat) : ∀ a b left : List En, left.length ≤ n → goodL left = true → 0 < a.length → 0 < b.length → 6 ≤ a.length + b.length + left.length ∨ True →
    List.Perm ((splitGo n a b left).1 ++ (splitGo n a b left).2) (a ++ b ++ left) ∧ a <+: (splitGo n a b left).1 ∧ b <+: (splitGo n a b left).2 ∧
    (6 ≤ a.length + b.length + left.length → 3 ≤ a.length + left.length → 3 ≤ b.length + left.length → 3 ≤ (splitGo n a b left).1.length ∧ 3 ≤ (splitGo n a b left).2.length) := by
  induction n with
  | zero =>
    intro a b left hn hg ha hb _
    have : left = [] := List.eq_nil_of_length_eq_zero (by omega)
    subst this
    simp only [splitGo, List.append_nil, List.length_nil]
    exact ⟨List.Perm.refl _, List.prefix_refl _, List.prefix_refl _, fun h1 h2 h3 => ⟨by omega, by omega⟩⟩
  | succ n ih =>
    intro a b left hn hg ha hb _
    rw [splitGo]
    split
    · rename_i h
      subst h
      simp only [List.append_nil, List.length_nil]
      exact ⟨List.Perm.refl _, List.prefix_refl _, List.prefix_refl _, fun h1 h2 h3 => ⟨by omega, by omega⟩⟩
    · rename_i hne
      have hpos : 0 < left.length := by
        rcases left with _ | ⟨x, l⟩
        · exact absurd rfl hne
        · simp
      split
      · refine ⟨?_, List.prefix_append _ _, List.prefix_refl _, fun h1 h2 h3 => ⟨by simp only [List.length_append]; omega, by simp only; omega⟩⟩
        rw [List.append_assoc, List.append_assoc]
        exact List.Perm.append_left a List.perm_append_comm
      · split
        · refine ⟨?_, List.prefix_refl _, List.prefix_append _ _, fun h1 h2 h3 => ⟨by simp only; omega, by simp only [List.length_append]; omega⟩⟩
          rw [List.append_assoc]
        · rename_i h3a h3b
          have hr := nextI_range hg hpos (bound a) (bound b)
          have hk : (nextI left (bound a) (bound b)).toNat < left.length := by omega
          have hp := without_perm hk
          have hl := without_length hk
          have hg2 := goodL_sub (without_sub left (nextI left (bound a) (bound b)).toNat) hg
          simp only
          generalize (nextI left (bound a) (bound b)).toNat = k at *
          generalize left.getD k En0 = x at *
          split
          · obtain ⟨h1, h2, h3, h4⟩ := ih (a ++ [x]) b (without left k) (by omega) hg2 (by simp) hb (.inr trivial)
            refine ⟨?_, (List.prefix_append _ _).trans h2, h3, fun g1 g2 g3 => h4 ?_ ?_ ?_⟩
            · refine h1.trans ?_
              rw [List.append_assoc, List.append_assoc, List.append_assoc]
              refine List.Perm.append_left a ?_
              exact ((List.perm_middle (a := x) (l₁ := b) (l₂ := without left k)).symm.trans (List.Perm.append_left b hp))
            · simp only [List.length_append, List.length_singleton]; omega
            · simp only [List.length_append, List.length_singleton]; omega
            · omega
          · obtain ⟨h1, h2, h3, h4⟩ := ih a (b ++ [x]) (without left k) (by omega) hg2 ha (by simp) (.inr trivial)
            refine ⟨?_, h2, (List.prefix_append _ _).trans h3, fun g1 g2 g3 => h4 ?_ ?_ ?_⟩
            · refine h1.trans ?_
              rw [List.append_assoc, List.append_assoc, List.append_assoc, List.singleton_append]
              exact List.Perm.append_left a (List.Perm.append_left b hp)
            · simp only [List.length_append, List.length_singleton]; omega
            · omega
            · simp only [List.length_append, List.length_singleton]; omega
theorem getD_without {l : List En} {k j : Nat} (h : j < k) (hk : k < l.length) : (without l k).getD j En0 = l.getD j En0 := by
  unfold without
  rw [List.getD_eq_getElem?_getD, List.getD_eq_getElem?_getD, List.getElem?_append_left (by rw [List.length_take]; omega), List.getElem?_take_of_lt h]
theorem split_parts {l : List En} (hg : goodL l = true) (h : 2 ≤ l.length) :
    List.Perm ((splitV l).1 ++ (splitV l).2) l ∧ (splitV l).1.getD 0 En0 = l.getD (seedsV l).1.toNat En0 ∧ (splitV l).2.getD 0 En0 = l.getD (seedsV l).2.toNat En0 ∧ 0 < (splitV l).1.length ∧ 0 < (splitV l).2.length ∧
    (6 ≤ l.length → 3 ≤ (splitV l).1.length ∧ 3 ≤ (splitV l).2.length) := by
  obtain ⟨s1, s2, s3, _⟩ := seeds_long hg h
  unfold splitV
  rw [if_neg (by omega)]
  generalize seedsV l = st at *
  obtain ⟨x, y⟩ := st
  simp only at *
  obtain ⟨i, rfl⟩ := Int.eq_ofNat_of_zero_le s1
  obtain ⟨j, rfl⟩ := Int.eq_ofNat_of_zero_le (show 0 ≤ y by omega)
  simp only [Int.toNat_natCast] at *
  have hj : j < l.length := by omega
  have hij : i < j := by omega
  have l1 := without_length hj
  have hi : i < (without l j).length := by omega
  have l2 := without_length hi
  have p1 := without_perm hj
  have p2 := without_perm hi
  rw [getD_without hij hj] at p2
  have g2 := goodL_sub ((without_sub (without l j) i).trans (without_sub l j)) hg
  obtain ⟨h1, h2, h3, h4⟩ := split_go l.length [l.getD i En0] [l.getD j En0] (without (without l j) i) (by omega) g2 (by simp) (by simp) (.inr trivial)
  generalize splitGo l.length [l.getD i En0] [l.getD j En0] (without (without l j) i) = s at *
  obtain ⟨A, B⟩ := s
  simp only at *
  refine ⟨?_, ?_, ?_, ?_, ?_, fun h6 => h4 ?_ ?_ ?_⟩
  · refine h1.trans ?_
    rw [List.append_assoc, List.singleton_append, List.singleton_append]
    exact ((List.Perm.swap _ _ _).trans (List.Perm.cons _ p2)).trans p1
  · obtain ⟨t, rfl⟩ := h2; rfl
  · obtain ⟨t, rfl⟩ := h3; rfl
  · obtain ⟨t, rfl⟩ := h2; simp
  · obtain ⟨t, rfl⟩ := h3; simp
  · simp only [List.length_singleton]; omega
  · simp only [List.length_singleton]; omega
  · simp only [List.length_singleton]; omega
end Go.Proofs.Ytljcingmjemohaa.MChoose
