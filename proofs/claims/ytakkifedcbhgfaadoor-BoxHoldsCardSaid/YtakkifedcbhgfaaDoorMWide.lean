/- Plain facts on numbers of three words (layer 1): sums and differences bit by bit and word by word, how they stand, how many bits they have, their digits; no program and no memory. -/
import Derived.RowKit
namespace Go.Proofs.YtakkifedcbhgfaaDoor.MWide
open Go
set_option linter.unusedVariables false
set_option linter.unusedSimpArgs false

/-! ### words -/
def w0 (n : Int) : Int := n % 18446744073709551616
def w1 (n : Int) : Int := n / 18446744073709551616 % 18446744073709551616
def w2 (n : Int) : Int := n / 340282366920938463463374607431768211456 % 18446744073709551616
def of3 (a b c : Int) : Int := a + 18446744073709551616 * b + 340282366920938463463374607431768211456 * c
/-- A number of three words. -/
def U192 (n : Int) : Prop := 0 ≤ n ∧ n < 6277101735386680763835789423207666416102355444464034512896
def W64 (n : Int) : Prop := 0 ≤ n ∧ n < 18446744073709551616
theorem w0_64 (n : Int) : W64 (w0 n) := by unfold w0 W64; omega
theorem w1_64 (n : Int) : W64 (w1 n) := by unfold w1 W64; omega
theorem w2_64 (n : Int) : W64 (w2 n) := by unfold w2 W64; omega
theorem of3_w {n : Int} (h : U192 n) : of3 (w0 n) (w1 n) (w2 n) = n := by unfold of3 w0 w1 w2; unfold U192 at h; omega
theorem of3_u {a b c : Int} (ha : W64 a) (hb : W64 b) (hc : W64 c) : U192 (of3 a b c) := by unfold of3 U192; unfold W64 at *; omega
theorem w0_of3 {a b c : Int} (ha : W64 a) (hb : W64 b) (hc : W64 c) : w0 (of3 a b c) = a := by unfold of3 w0; unfold W64 at *; omega
theorem w1_of3 {a b c : Int} (ha : W64 a) (hb : W64 b) (hc : W64 c) : w1 (of3 a b c) = b := by unfold of3 w1; unfold W64 at *; omega
theorem w2_of3 {a b c : Int} (ha : W64 a) (hb : W64 b) (hc : W64 c) : w2 (of3 a b c) = c := by unfold of3 w2; unfold W64 at *; omega
theorem u64_u {n : Int} (h : W64 n) : U192 n := by unfold U192; unfold W64 at h; omega
theorem w0_64' {n : Int} (h : W64 n) : w0 n = n := by unfold w0; unfold W64 at h; omega
theorem w1_64' {n : Int} (h : W64 n) : w1 n = 0 := by unfold w1; unfold W64 at h; omega
theorem w2_64' {n : Int} (h : W64 n) : w2 n = 0 := by unfold w2; unfold W64 at h; omega
theorem w_ext {a b : Int} (ha : U192 a) (hb : U192 b) (h0 : w0 a = w0 b) (h1 : w1 a = w1 b) (h2 : w2 a = w2 b) : a = b := by
  rw [← of3_w ha, ← of3_w hb, h0, h1, h2]
theorem w_mul {a b : Int} (ha : W64 a) (hb : W64 b) : 0 ≤ a * b ∧ a * b < 340282366920938463463374607431768211456 := by
  obtain ⟨a0, a1⟩ := ha
  obtain ⟨b0, b1⟩ := hb
  refine ⟨Int.mul_nonneg a0 b0, ?_⟩
  have h1 : a * b ≤ a * 18446744073709551615 := Int.mul_le_mul_of_nonneg_left (by omega) a0
  omega
theorem u_mul {a b : Int} (ha : W64 a) (hb : W64 b) : U192 (a * b) := by have := w_mul ha hb; unfold U192; omega

/-! ### dividing -/
theorem div_of {a m q r : Int} (h : a = m * q + r) (h0 : 0 ≤ r) (h1 : r < m) : a / m = q := by
  subst h
  rw [Int.add_comm, Int.add_mul_ediv_left _ _ (by omega), Int.ediv_eq_zero_of_lt h0 h1, Int.zero_add]
theorem mod_of {a m q r : Int} (h : a = m * q + r) (h0 : 0 ≤ r) (h1 : r < m) : a % m = r := by
  subst h
  rw [Int.add_comm, Int.add_mul_emod_self_left, Int.emod_eq_of_lt h0 h1]
theorem parts (a m : Int) : a = m * (a / m) + a % m := (Int.mul_ediv_add_emod a m).symm
theorem p2 (i : Nat) : (0 : Int) < 2 ^ i := Int.pow_pos (by decide)
theorem p2s (i : Nat) : (2 : Int) ^ (i + 1) = 2 * 2 ^ i := by rw [Int.pow_succ, Int.mul_comm]

/-! ### bits -/
/-- The i-th bit. -/
def bt (n : Int) (i : Nat) : Int := n / 2 ^ i % 2
theorem bt01 (n : Int) (i : Nat) : 0 ≤ bt n i ∧ bt n i ≤ 1 := by unfold bt; omega
theorem mod_succ (a : Int) (i : Nat) : a % 2 ^ (i + 1) = 2 ^ i * bt a i + a % 2 ^ i := by
  have hp := p2 i
  have h1 := parts a (2 ^ i)
  have h2 := parts (a / 2 ^ i) 2
  have hr0 := Int.emod_nonneg a (Int.ne_of_gt hp)
  have hr1 := Int.emod_lt_of_pos a hp
  have hb := bt01 a i
  unfold bt at hb ⊢
  generalize a / 2 ^ i = q at *
  generalize a % 2 ^ i = r at *
  generalize q / 2 = d at *
  rw [p2s]
  generalize (2 : Int) ^ i = P at *
  generalize q % 2 = t at *
  refine mod_of (q := d) ?_ ?_ ?_
  · rw [h1, h2, Int.mul_add, Int.mul_assoc, Int.mul_left_comm P 2 d]; omega
  · rcases (by omega : t = 0 ∨ t = 1) with rfl | rfl <;> omega
  · rcases (by omega : t = 0 ∨ t = 1) with rfl | rfl <;> omega
theorem div_succ (a : Int) (i : Nat) : a / 2 ^ i = 2 * (a / 2 ^ (i + 1)) + bt a i := by
  rw [p2s, Int.mul_comm 2 (2 ^ i), ← Int.ediv_ediv_of_nonneg (Int.le_of_lt (p2 i))]
  unfold bt
  omega
/-- The bits of a number, a word at a time. -/
theorem bt_word (n : Int) (q r : Nat) (hr : r < 64) : n / 2 ^ (64 * q) % 18446744073709551616 / 2 ^ r % 2 = bt n (64 * q + r) := by
  unfold bt
  rw [Int.pow_add, ← Int.ediv_ediv_of_nonneg (Int.le_of_lt (p2 (64 * q)))]
  generalize n / 2 ^ (64 * q) = m
  have e : (18446744073709551616 : Int) = 2 ^ r * (2 * 2 ^ (63 - r)) := by
    rw [← p2s, ← Int.pow_add, show r + (63 - r + 1) = 64 by omega]; rfl
  have hp := p2 r
  have hp2 := p2 (63 - r)
  have h1 := parts m 18446744073709551616
  rw [e] at h1 ⊢
  generalize (2 : Int) ^ (63 - r) = R at *
  generalize (2 : Int) ^ r = P at *
  generalize m / (P * (2 * R)) = D at *
  generalize m % (P * (2 * R)) = x at *
  have h2 : m / P = x / P + 2 * (R * D) := by
    rw [h1, Int.mul_assoc, Int.mul_assoc, Int.add_comm, Int.add_mul_ediv_left _ _ (by omega)]
  rw [h2]
  omega
theorem bt_w (n : Int) (i : Nat) (h : i < 192) : bt n i = (if i < 64 then w0 n else if i < 128 then w1 n else w2 n) / 2 ^ (i % 64) % 2 := by
  split
  · have := bt_word n 0 i (by omega)
    rw [show 64 * 0 + i = i by omega] at this
    rw [← this, show i % 64 = i by omega]
    unfold w0
    simp
  · split
    · have := bt_word n 1 (i - 64) (by omega)
      rw [show 64 * 1 + (i - 64) = i by omega] at this
      rw [← this, show i % 64 = i - 64 by omega]
      unfold w1
      rfl
    · have := bt_word n 2 (i - 128) (by omega)
      rw [show 64 * 2 + (i - 128) = i by omega] at this
      rw [← this, show i % 64 = i - 128 by omega]
      unfold w2
      rfl

/-! ### a bit more -/
theorem put_lt {n : Int} {i : Nat} (h : U192 n) (hi : i < 192) (hb : bt n i = 0) : U192 (n + 2 ^ i) := by
  obtain ⟨h0, h1⟩ := h
  have hp := p2 i
  refine ⟨by omega, ?_⟩
  have e : (6277101735386680763835789423207666416102355444464034512896 : Int) = 2 ^ (i + 1) * 2 ^ (191 - i) := by
    rw [← Int.pow_add, show i + 1 + (191 - i) = 192 by omega]; rfl
  rw [e] at h1 ⊢
  have e1 := div_succ n i
  rw [hb, Int.add_zero] at e1
  have e2 := parts n (2 ^ i)
  rw [e1] at e2
  have hr1 := Int.emod_lt_of_pos n hp
  have hq : n / 2 ^ (i + 1) < 2 ^ (191 - i) := Int.ediv_lt_of_lt_mul (p2 _) (by rw [Int.mul_comm]; exact h1)
  rw [p2s] at *
  generalize n / (2 * 2 ^ i) = q at *
  generalize n % 2 ^ i = r at *
  have h3 : 2 * 2 ^ i * (q + 1) ≤ 2 * 2 ^ i * 2 ^ (191 - i) := Int.mul_le_mul_of_nonneg_left (by omega) (by omega)
  rw [Int.mul_add, Int.mul_one] at h3
  rw [Int.mul_left_comm, ← Int.mul_assoc] at e2
  omega
/-- In a word. -/
theorem put_word {x : Int} {r : Nat} (hr : r < 64) (h : W64 x) (hb : x / 2 ^ r % 2 = 0) : x + 2 ^ r < 18446744073709551616 := by
  obtain ⟨h0, h1⟩ := h
  have hp := p2 r
  have e : (18446744073709551616 : Int) = 2 ^ (r + 1) * 2 ^ (63 - r) := by
    rw [← Int.pow_add, show r + 1 + (63 - r) = 64 by omega]; rfl
  rw [e] at h1 ⊢
  have e1 := div_succ x r
  unfold bt at e1
  rw [hb, Int.add_zero] at e1
  have e2 := parts x (2 ^ r)
  rw [e1] at e2
  have hr1 := Int.emod_lt_of_pos x hp
  have hq : x / 2 ^ (r + 1) < 2 ^ (63 - r) := Int.ediv_lt_of_lt_mul (p2 _) (by rw [Int.mul_comm]; exact h1)
  rw [p2s] at *
  generalize x / (2 * 2 ^ r) = q at *
  generalize x % 2 ^ r = s at *
  have h3 : 2 * 2 ^ r * (q + 1) ≤ 2 * 2 ^ r * 2 ^ (63 - r) := Int.mul_le_mul_of_nonneg_left (by omega) (by omega)
  rw [Int.mul_add, Int.mul_one] at h3
  rw [Int.mul_left_comm, ← Int.mul_assoc] at e2
  omega
theorem put_w0 {n : Int} {i : Nat} (h : U192 n) (hi : i < 64) (hb : bt n i = 0) : w0 (n + 2 ^ i) = w0 n + 2 ^ i ∧ w1 (n + 2 ^ i) = w1 n ∧ w2 (n + 2 ^ i) = w2 n := by
  have hw := put_word hi (w0_64 n) (by rw [bt_w n i (by omega), if_pos hi, Nat.mod_eq_of_lt hi] at hb; exact hb)
  have e := of3_w h
  have a := w0_64 n; have b := w1_64 n; have c := w2_64 n
  have hp := p2 i
  generalize w0 n = x at *; generalize w1 n = y at *; generalize w2 n = z at *
  generalize (2 : Int) ^ i = P at *
  subst e
  unfold w0 w1 w2 of3
  unfold W64 at *
  omega
theorem put_w1 {n : Int} {i : Nat} (h : U192 n) (hi : 64 ≤ i) (hi2 : i < 128) (hb : bt n i = 0) : w0 (n + 2 ^ i) = w0 n ∧ w1 (n + 2 ^ i) = w1 n + 2 ^ (i - 64) ∧ w2 (n + 2 ^ i) = w2 n := by
  have hw := put_word (r := i - 64) (by omega) (w1_64 n) (by rw [bt_w n i (by omega), if_neg (by omega), if_pos hi2, show i % 64 = i - 64 by omega] at hb; exact hb)
  have e := of3_w h
  have a := w0_64 n; have b := w1_64 n; have c := w2_64 n
  have hp := p2 (i - 64)
  have e2 : (2 : Int) ^ i = 18446744073709551616 * 2 ^ (i - 64) := by
    rw [show (18446744073709551616 : Int) = 2 ^ 64 from rfl, ← Int.pow_add, show 64 + (i - 64) = i by omega]
  rw [e2]
  generalize w0 n = x at *; generalize w1 n = y at *; generalize w2 n = z at *
  generalize (2 : Int) ^ (i - 64) = P at *
  subst e
  unfold w0 w1 w2 of3
  unfold W64 at *
  omega
theorem put_w2 {n : Int} {i : Nat} (h : U192 n) (hi : 128 ≤ i) (hi2 : i < 192) (hb : bt n i = 0) : w0 (n + 2 ^ i) = w0 n ∧ w1 (n + 2 ^ i) = w1 n ∧ w2 (n + 2 ^ i) = w2 n + 2 ^ (i - 128) := by
  have hw := put_word (r := i - 128) (by omega) (w2_64 n) (by rw [bt_w n i (by omega), if_neg (by omega), if_neg (by omega), show i % 64 = i - 128 by omega] at hb; exact hb)
  have e := of3_w h
  have a := w0_64 n; have b := w1_64 n; have c := w2_64 n
  have hp := p2 (i - 128)
  have e2 : (2 : Int) ^ i = 340282366920938463463374607431768211456 * 2 ^ (i - 128) := by
    rw [show (340282366920938463463374607431768211456 : Int) = 2 ^ 128 from rfl, ← Int.pow_add, show 128 + (i - 128) = i by omega]
  rw [e2]
  generalize w0 n = x at *; generalize w1 n = y at *; generalize w2 n = z at *
  generalize (2 : Int) ^ (i - 128) = P at *
  subst e
  unfold w0 w1 w2 of3
  unfold W64 at *
  omega
/-- A number below 2^i has no bit from i on; one that 2^(i+1) divides has none below. -/
theorem bt_lt {n : Int} {i : Nat} (h0 : 0 ≤ n) (h : n < 2 ^ i) : bt n i = 0 := by unfold bt; rw [Int.ediv_eq_zero_of_lt h0 h]; rfl
theorem bt_mul (m : Int) (i : Nat) : bt (2 ^ (i + 1) * m) i = 0 := by
  unfold bt
  rw [p2s, Int.mul_assoc, Int.mul_left_comm, Int.mul_ediv_cancel_left _ (Int.ne_of_gt (p2 i))]
  omega

/-! ### sums and differences -/
/-- What is carried on from i bits. -/
def cry (a b : Int) (i : Nat) : Int := (a % 2 ^ i + b % 2 ^ i) / 2 ^ i
def sumO (a b : Int) (i : Nat) : Int := (a % 2 ^ i + b % 2 ^ i) % 2 ^ i
theorem cry01 (a b : Int) (i : Nat) : 0 ≤ cry a b i ∧ cry a b i ≤ 1 := by
  unfold cry
  have hp := p2 i
  have a0 := Int.emod_nonneg a (Int.ne_of_gt hp); have a1 := Int.emod_lt_of_pos a hp
  have b0 := Int.emod_nonneg b (Int.ne_of_gt hp); have b1 := Int.emod_lt_of_pos b hp
  refine ⟨Int.ediv_nonneg (by omega) (by omega), ?_⟩
  have : (a % 2 ^ i + b % 2 ^ i) / 2 ^ i < 2 := Int.ediv_lt_of_lt_mul hp (by omega)
  omega
theorem sumO_lt (a b : Int) (i : Nat) : 0 ≤ sumO a b i ∧ sumO a b i < 2 ^ i := by
  unfold sumO
  exact ⟨Int.emod_nonneg _ (Int.ne_of_gt (p2 i)), Int.emod_lt_of_pos _ (p2 i)⟩
theorem add_step (a b : Int) (i : Nat) : cry a b (i + 1) = (bt a i + bt b i + cry a b i) / 2 ∧ sumO a b (i + 1) = sumO a b i + 2 ^ i * ((bt a i + bt b i + cry a b i) % 2) := by
  have ha := mod_succ a i
  have hb := mod_succ b i
  have h1 := parts (a % 2 ^ i + b % 2 ^ i) (2 ^ i)
  have h2 := sumO_lt a b i
  have h3 := cry01 a b i
  have h4 := bt01 a i
  have h5 := bt01 b i
  unfold cry sumO at *
  rw [ha, hb, p2s]
  have hp := p2 i
  generalize (a % 2 ^ i + b % 2 ^ i) / 2 ^ i = c at *
  generalize (a % 2 ^ i + b % 2 ^ i) % 2 ^ i = o at *
  generalize a % 2 ^ i = x at *; generalize b % 2 ^ i = y at *
  generalize (2 : Int) ^ i = P at *
  generalize bt a i = s at *; generalize bt b i = t at *
  have e : P * s + x + (P * t + y) = 2 * P * ((s + t + c) / 2) + (o + P * ((s + t + c) % 2)) := by
    have hd := parts (s + t + c) 2
    generalize (s + t + c) / 2 = d at *
    generalize (s + t + c) % 2 = m at *
    have : P * s + x + (P * t + y) = P * (s + t + c) + o := by rw [Int.mul_add, Int.mul_add]; omega
    rw [this, hd, Int.mul_add, Int.mul_assoc, Int.mul_left_comm]; omega
  have hm : (s + t + c) % 2 = 0 ∨ (s + t + c) % 2 = 1 := by omega
  have hlo : 0 ≤ o + P * ((s + t + c) % 2) := by rcases hm with h | h <;> rw [h] <;> omega
  have hhi : o + P * ((s + t + c) % 2) < 2 * P := by rcases hm with h | h <;> rw [h] <;> omega
  exact ⟨div_of e hlo hhi, mod_of e hlo hhi⟩
theorem cry_top {a b : Int} (ha : U192 a) (hb : U192 b) : (cry a b 192 = 0 ↔ a + b < 6277101735386680763835789423207666416102355444464034512896) ∧ (a + b < 6277101735386680763835789423207666416102355444464034512896 → sumO a b 192 = a + b) := by
  unfold U192 at *
  unfold cry sumO
  rw [show (2 : Int) ^ 192 = 6277101735386680763835789423207666416102355444464034512896 from rfl]
  omega
theorem cry_0 (a b : Int) : cry a b 0 = 0 ∧ sumO a b 0 = 0 := by
  unfold cry sumO
  rw [Int.pow_zero]; omega
/-- What is borrowed. -/
def bor (a b : Int) (i : Nat) : Int := -((a % 2 ^ i - b % 2 ^ i) / 2 ^ i)
def difO (a b : Int) (i : Nat) : Int := (a % 2 ^ i - b % 2 ^ i) % 2 ^ i
theorem bor01 (a b : Int) (i : Nat) : 0 ≤ bor a b i ∧ bor a b i ≤ 1 := by
  unfold bor
  have hp := p2 i
  have a0 := Int.emod_nonneg a (Int.ne_of_gt hp); have a1 := Int.emod_lt_of_pos a hp
  have b0 := Int.emod_nonneg b (Int.ne_of_gt hp); have b1 := Int.emod_lt_of_pos b hp
  have h1 : (a % 2 ^ i - b % 2 ^ i) / 2 ^ i < 1 := Int.ediv_lt_of_lt_mul hp (by omega)
  have h2 : -1 ≤ (a % 2 ^ i - b % 2 ^ i) / 2 ^ i := Int.le_ediv_of_mul_le hp (by omega)
  omega
theorem difO_lt (a b : Int) (i : Nat) : 0 ≤ difO a b i ∧ difO a b i < 2 ^ i := by
  unfold difO
  exact ⟨Int.emod_nonneg _ (Int.ne_of_gt (p2 i)), Int.emod_lt_of_pos _ (p2 i)⟩
theorem sub_step (a b : Int) (i : Nat) : bor a b (i + 1) = (if bt b i + bor a b i > bt a i then 1 else 0) ∧ difO a b (i + 1) = difO a b i + 2 ^ i * ((bt a i + (bt b i + bor a b i)) % 2) := by
  have ha := mod_succ a i
  have hb := mod_succ b i
  have h1 := parts (a % 2 ^ i - b % 2 ^ i) (2 ^ i)
  have h2 := difO_lt a b i
  have h3 := bor01 a b i
  have h4 := bt01 a i
  have h5 := bt01 b i
  unfold bor difO at *
  rw [ha, hb, p2s]
  have hp := p2 i
  generalize (a % 2 ^ i - b % 2 ^ i) / 2 ^ i = c at *
  generalize (a % 2 ^ i - b % 2 ^ i) % 2 ^ i = o at *
  generalize a % 2 ^ i = x at *; generalize b % 2 ^ i = y at *
  generalize (2 : Int) ^ i = P at *
  generalize bt a i = s at *; generalize bt b i = t at *
  have e : P * s + x - (P * t + y) = 2 * P * ((s - t + c) / 2) + (o + P * ((s - t + c) % 2)) := by
    have hd := parts (s - t + c) 2
    generalize (s - t + c) / 2 = d at *
    generalize (s - t + c) % 2 = m at *
    have : P * s + x - (P * t + y) = P * (s - t + c) + o := by rw [Int.mul_add, Int.mul_sub]; omega
    rw [this, hd, Int.mul_add, Int.mul_assoc, Int.mul_left_comm]; omega
  have hm : (s - t + c) % 2 = 0 ∨ (s - t + c) % 2 = 1 := by omega
  have hlo : 0 ≤ o + P * ((s - t + c) % 2) := by rcases hm with h | h <;> rw [h] <;> omega
  have hhi : o + P * ((s - t + c) % 2) < 2 * P := by rcases hm with h | h <;> rw [h] <;> omega
  rw [div_of e hlo hhi, mod_of e hlo hhi]
  refine ⟨?_, ?_⟩
  · split <;> omega
  · rw [show (s - t + c) % 2 = (s + (t + -c)) % 2 by omega]
theorem bor_top {a b : Int} (ha : U192 a) (hb : U192 b) : (bor a b 192 = 0 ↔ b ≤ a) ∧ (b ≤ a → difO a b 192 = a - b) := by
  unfold U192 at *
  unfold bor difO
  rw [show (2 : Int) ^ 192 = 6277101735386680763835789423207666416102355444464034512896 from rfl]
  omega
theorem bor_0 (a b : Int) : bor a b 0 = 0 ∧ difO a b 0 = 0 := by
  unfold bor difO
  rw [Int.pow_zero]; omega
/-- The answers. -/
def addOk (a b : Int) : Bool := decide (a + b < 6277101735386680763835789423207666416102355444464034512896)
def addV (a b : Int) : Int := if addOk a b = true then a + b else 0
def subOk (a b : Int) : Bool := decide (b ≤ a)
def subV (a b : Int) : Int := if subOk a b = true then a - b else 0
theorem addV_u {a b : Int} (ha : U192 a) (hb : U192 b) : U192 (addV a b) := by
  unfold addV addOk; unfold U192 at *; split <;> simp_all <;> omega
theorem subV_u {a b : Int} (ha : U192 a) (hb : U192 b) : U192 (subV a b) := by
  unfold subV subOk; unfold U192 at *; split <;> simp_all <;> omega

/-! ### a word at a time -/
theorem add_words {a b : Int} (ha : U192 a) (hb : U192 b) (c0 c1 c2 : Int) (h0 : c0 = (w0 a + w0 b) / 18446744073709551616) (h1 : c1 = (w1 a + w1 b + c0) / 18446744073709551616) (h2 : c2 = (w2 a + w2 b + c1) / 18446744073709551616) :
    (0 ≤ c0 ∧ c0 ≤ 1) ∧ (0 ≤ c1 ∧ c1 ≤ 1) ∧ (0 ≤ c2 ∧ c2 ≤ 1) ∧ (addOk a b = true → c2 = 0 ∧ (w0 a + w0 b) % 18446744073709551616 = w0 (addV a b) ∧ (w1 a + w1 b + c0) % 18446744073709551616 = w1 (addV a b) ∧ (w2 a + w2 b + c1) % 18446744073709551616 = w2 (addV a b)) ∧ (addOk a b = false → c2 = 1 ∧ addV a b = 0) := by
  have ea := of3_w ha
  have eb := of3_w hb
  have a0 := w0_64 a; have a1 := w1_64 a; have a2 := w2_64 a
  have b0 := w0_64 b; have b1 := w1_64 b; have b2 := w2_64 b
  generalize w0 a = x0 at *; generalize w1 a = x1 at *; generalize w2 a = x2 at *
  generalize w0 b = y0 at *; generalize w1 b = y1 at *; generalize w2 b = y2 at *
  subst ea eb
  unfold W64 at *
  unfold addV addOk
  refine ⟨by omega, by omega, by omega, fun h => ?_, fun h => ?_⟩
  · rw [if_pos h]
    simp only [decide_eq_true_eq] at h
    unfold of3 at *
    unfold w0 w1 w2
    omega
  · rw [if_neg (by simp [h])]
    simp only [decide_eq_false_iff_not] at h
    unfold of3 at *
    omega
theorem sub_words {a b : Int} (ha : U192 a) (hb : U192 b) (c0 c1 c2 : Int) (h0 : c0 = if w0 a < w0 b then 1 else 0) (h1 : c1 = if w1 a < w1 b + c0 then 1 else 0) (h2 : c2 = if w2 a < w2 b + c1 then 1 else 0) :
    (0 ≤ c0 ∧ c0 ≤ 1) ∧ (0 ≤ c1 ∧ c1 ≤ 1) ∧ (0 ≤ c2 ∧ c2 ≤ 1) ∧ (subOk a b = true → c2 = 0 ∧ (w0 a - w0 b) % 18446744073709551616 = w0 (subV a b) ∧ (w1 a - w1 b - c0) % 18446744073709551616 = w1 (subV a b) ∧ (w2 a - w2 b - c1) % 18446744073709551616 = w2 (subV a b)) ∧ (subOk a b = false → c2 = 1 ∧ subV a b = 0) := by
  have ea := of3_w ha
  have eb := of3_w hb
  have a0 := w0_64 a; have a1 := w1_64 a; have a2 := w2_64 a
  have b0 := w0_64 b; have b1 := w1_64 b; have b2 := w2_64 b
  generalize w0 a = x0 at *; generalize w1 a = x1 at *; generalize w2 a = x2 at *
  generalize w0 b = y0 at *; generalize w1 b = y1 at *; generalize w2 b = y2 at *
  subst ea eb
  unfold W64 at *
  unfold subV subOk
  refine ⟨by split at h0 <;> omega, by split at h1 <;> omega, by split at h2 <;> omega, fun h => ?_, fun h => ?_⟩
  · rw [if_pos h]
    simp only [decide_eq_true_eq] at h
    unfold of3 at *
    unfold w0 w1 w2
    split at h0 <;> split at h1 <;> split at h2 <;> omega
  · rw [if_neg (by simp [h])]
    simp only [decide_eq_false_iff_not] at h
    unfold of3 at *
    split at h0 <;> split at h1 <;> split at h2 <;> omega

/-! ### how two numbers stand -/
def cmpV (a b : Int) : Int := if a < b then -1 else if a = b then 0 else 1
theorem cmp_words {a b : Int} (ha : U192 a) (hb : U192 b) : cmpV a b = if cmpV (w2 a) (w2 b) ≠ 0 then cmpV (w2 a) (w2 b) else if cmpV (w1 a) (w1 b) ≠ 0 then cmpV (w1 a) (w1 b) else cmpV (w0 a) (w0 b) := by
  have ea := of3_w ha
  have eb := of3_w hb
  have a0 := w0_64 a; have a1 := w1_64 a; have a2 := w2_64 a
  have b0 := w0_64 b; have b1 := w1_64 b; have b2 := w2_64 b
  generalize w0 a = x0 at *; generalize w1 a = x1 at *; generalize w2 a = x2 at *
  generalize w0 b = y0 at *; generalize w1 b = y1 at *; generalize w2 b = y2 at *
  subst ea eb
  unfold W64 at *
  unfold of3 cmpV
  rcases Int.lt_trichotomy x2 y2 with h2 | h2 | h2
  · rw [if_pos (by omega), if_pos h2]; simp
  · rw [if_neg (show ¬ x2 < y2 by omega), if_pos h2]
    simp only [ne_eq, not_true, if_false]
    rcases Int.lt_trichotomy x1 y1 with h1 | h1 | h1
    · rw [if_pos (by omega), if_pos h1]; simp
    · rw [if_neg (show ¬ x1 < y1 by omega), if_pos h1]
      simp only [ne_eq, not_true, if_false]
      rcases Int.lt_trichotomy x0 y0 with h0 | h0 | h0
      · rw [if_pos (by omega), if_pos h0]
      · rw [if_neg (by omega), if_pos (by omega), if_neg (by omega), if_pos h0]
      · rw [if_neg (by omega), if_neg (by omega), if_neg (by omega), if_neg (by omega)]
    · rw [if_neg (by omega), if_neg (by omega), if_neg (show ¬ x1 < y1 by omega), if_neg (show ¬ x1 = y1 by omega)]; simp
  · rw [if_neg (by omega), if_neg (by omega), if_neg (show ¬ x2 < y2 by omega), if_neg (show ¬ x2 = y2 by omega)]; simp
theorem cmp_lt {a b : Int} {i : Nat} (h : a / 2 ^ (i + 1) = b / 2 ^ (i + 1)) (hb : bt a i < bt b i) : a < b := by
  have h1 := div_succ a i
  have h2 := div_succ b i
  rw [h] at h1
  have hl : a / 2 ^ i < b / 2 ^ i := by omega
  rcases Int.lt_or_le a b with hc | hc
  · exact hc
  · have := Int.ediv_le_ediv (p2 i) hc; omega
theorem cmp_eq {a b : Int} {i : Nat} (h : a / 2 ^ (i + 1) = b / 2 ^ (i + 1)) (hb : bt a i = bt b i) : a / 2 ^ i = b / 2 ^ i := by
  rw [div_succ a i, div_succ b i, h, hb]

/-! ### how many bits -/
def width (n : Int) : Int := if n ≤ 0 then 0 else ((n.toNat.log2 : Nat) : Int) + 1
theorem width_at {n : Int} {i : Nat} (h : n / 2 ^ i = 1) : width n = (i : Int) + 1 := by
  have hp := p2 i
  have e := parts n (2 ^ i)
  have r0 := Int.emod_nonneg n (Int.ne_of_gt hp)
  have r1 := Int.emod_lt_of_pos n hp
  rw [h] at e
  unfold width
  rw [if_neg (by omega)]
  have : n.toNat.log2 = i := by
    refine (Nat.log2_eq_iff (by omega)).2 ⟨?_, ?_⟩
    · have : ((2 ^ i : Nat) : Int) ≤ (n.toNat : Int) := by rw [Int.toNat_of_nonneg (by omega)]; push_cast; omega
      exact_mod_cast this
    · have : (n.toNat : Int) < ((2 ^ (i + 1) : Nat) : Int) := by rw [Int.toNat_of_nonneg (by omega)]; push_cast; rw [p2s]; omega
      exact_mod_cast this
  rw [this]
theorem width_0 : width 0 = 0 := rfl
theorem width_pos {n : Int} (h : 0 < n) : 2 ^ (width n - 1).toNat ≤ n ∧ n < 2 ^ (width n).toNat ∧ 1 ≤ width n := by
  unfold width
  rw [if_neg (by omega)]
  have h1 := Nat.log2_self_le (n := n.toNat) (by omega)
  have h2 := Nat.lt_log2_self (n := n.toNat)
  refine ⟨?_, ?_, by omega⟩
  · rw [show ((n.toNat.log2 : Nat) : Int) + 1 - 1 = (n.toNat.log2 : Nat) by omega, Int.toNat_natCast]
    have : ((2 ^ n.toNat.log2 : Nat) : Int) ≤ (n.toNat : Int) := by exact_mod_cast h1
    rw [Int.toNat_of_nonneg (by omega)] at this
    push_cast at this
    exact this
  · rw [show (((n.toNat.log2 : Nat) : Int) + 1).toNat = n.toNat.log2 + 1 by omega]
    have : (n.toNat : Int) < ((2 ^ (n.toNat.log2 + 1) : Nat) : Int) := by exact_mod_cast h2
    rw [Int.toNat_of_nonneg (by omega)] at this
    push_cast at this
    exact this
theorem width_eq {n : Int} {k : Nat} (hl : 2 ^ k ≤ n) (hh : n < 2 ^ (k + 1)) : width n = (k : Int) + 1 :=
  width_at (div_of (q := 1) (r := n - 2 ^ k) (by omega) (by omega) (by rw [p2s] at hh; omega))
theorem p2_mono {a b : Nat} (h : a ≤ b) : (2 : Int) ^ a ≤ 2 ^ b := by
  have : (2 : Nat) ^ a ≤ 2 ^ b := Nat.pow_le_pow_right (by decide) h
  exact_mod_cast this
/-- The bits of a product. -/
theorem width_mul {a b : Int} (ha : 0 < a) (hb : 0 < b) : width a + width b - width (a * b) = 0 ∨ width a + width b - width (a * b) = 1 := by
  obtain ⟨a1, a2, a3⟩ := width_pos ha
  obtain ⟨b1, b2, b3⟩ := width_pos hb
  obtain ⟨k, hk⟩ : ∃ k : Nat, width a = (k : Int) + 1 := ⟨(width a - 1).toNat, by omega⟩
  obtain ⟨l, hl⟩ : ∃ l : Nat, width b = (l : Int) + 1 := ⟨(width b - 1).toNat, by omega⟩
  rw [hk] at a1 a2 ⊢
  rw [hl] at b1 b2 ⊢
  rw [show ((k : Int) + 1 - 1).toNat = k by omega] at a1
  rw [show ((l : Int) + 1 - 1).toNat = l by omega] at b1
  rw [show ((k : Int) + 1).toNat = k + 1 by omega] at a2
  rw [show ((l : Int) + 1).toNat = l + 1 by omega] at b2
  have lo : (2 : Int) ^ (k + l) ≤ a * b := by
    rw [Int.pow_add]
    exact Int.mul_le_mul a1 b1 (Int.le_of_lt (p2 l)) (by omega)
  have hi : a * b < 2 ^ (k + l + 2) := by
    rw [show k + l + 2 = (k + 1) + (l + 1) by omega, Int.pow_add]
    exact Int.mul_lt_mul a2 (Int.le_of_lt b2) hb (Int.le_of_lt (p2 (k + 1)))
  rcases Int.lt_or_le (a * b) (2 ^ (k + l + 1)) with h | h
  · rw [width_eq lo h]; right; omega
  · rw [width_eq h (by rw [show k + l + 1 + 1 = k + l + 2 by omega]; exact hi)]; left; omega
/-- A word at a time. -/
theorem width_words {n : Int} (h : U192 n) : width n = if 0 < w2 n then 128 + width (w2 n) else if 0 < w1 n then 64 + width (w1 n) else width (w0 n) := by
  have e := of3_w h
  have a := w0_64 n; have b := w1_64 n; have c := w2_64 n
  generalize w0 n = x at *; generalize w1 n = y at *; generalize w2 n = z at *
  subst e
  unfold W64 at *
  unfold of3
  split
  · rename_i hz
    obtain ⟨a1, a2, a3⟩ := width_pos hz
    obtain ⟨k, hk⟩ : ∃ k : Nat, width z = (k : Int) + 1 := ⟨(width z - 1).toNat, by omega⟩
    rw [hk] at a1 a2 ⊢
    rw [show ((k : Int) + 1 - 1).toNat = k by omega] at a1
    rw [show ((k : Int) + 1).toNat = k + 1 by omega] at a2
    have e1 : (2 : Int) ^ (128 + k) = 340282366920938463463374607431768211456 * 2 ^ k := by rw [Int.pow_add]; rfl
    have e2 : (2 : Int) ^ (128 + k + 1) = 340282366920938463463374607431768211456 * 2 ^ (k + 1) := by rw [Nat.add_assoc, Int.pow_add]; rfl
    rw [width_eq (k := 128 + k) (by rw [e1]; omega) (by rw [e2]; omega)]
    omega
  · split
    · rename_i hz hy
      obtain ⟨a1, a2, a3⟩ := width_pos hy
      obtain ⟨k, hk⟩ : ∃ k : Nat, width y = (k : Int) + 1 := ⟨(width y - 1).toNat, by omega⟩
      rw [hk] at a1 a2 ⊢
      rw [show ((k : Int) + 1 - 1).toNat = k by omega] at a1
      rw [show ((k : Int) + 1).toNat = k + 1 by omega] at a2
      have e1 : (2 : Int) ^ (64 + k) = 18446744073709551616 * 2 ^ k := by rw [Int.pow_add]; rfl
      have e2 : (2 : Int) ^ (64 + k + 1) = 18446744073709551616 * 2 ^ (k + 1) := by rw [Nat.add_assoc, Int.pow_add]; rfl
      rw [width_eq (k := 64 + k) (by rw [e1]; omega) (by rw [e2]; omega)]
      omega
    · rw [show x + 18446744073709551616 * y + 340282366920938463463374607431768211456 * z = x by omega]
end Go.Proofs.YtakkifedcbhgfaaDoor.MWide
