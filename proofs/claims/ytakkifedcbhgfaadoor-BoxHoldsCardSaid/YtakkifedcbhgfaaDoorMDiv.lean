/- Plain facts on Go's way to part a number of two words by 10^19 (layer 1), and of three words word by word; no program and no memory. -/
import Derived.Test.YtakkifedcbhgfaaDoorMText
namespace Go.Proofs.YtakkifedcbhgfaaDoor.MDiv
open Go Go.Proofs.YtakkifedcbhgfaaDoor.MWide Go.Proofs.YtakkifedcbhgfaaDoor.MText
set_option linter.unusedVariables false
set_option linter.unusedSimpArgs false
/-- So far is half a quotient known: not too little, and what is left with it. -/
def Guess (n q r : Int) : Prop := 0 ≤ r ∧ r < 4294967296 ∧ n / 4294967296 = q * 2328306436 + r ∧ n / 10000000000000000000 ≤ q ∧ q ≤ 4294967296
theorem guess_0 {hi u : Int} (h0 : 0 ≤ hi) (h1 : hi < 10000000000000000000) (u0 : 0 ≤ u) (u1 : u < 4294967296) : Guess (hi * 4294967296 + u) (hi / 2328306436) (hi - hi / 2328306436 * 2328306436) := by
  unfold Guess; omega
/-- The test says no: it is the quotient. -/
theorem guess_done {n q r : Int} (h : Guess n q r) (hq : q < 4294967296) (ht : q * 2313682944 ≤ 4294967296 * r + n % 4294967296) : q = n / 10000000000000000000 := by
  unfold Guess at h; omega
/-- The test says yes: it is one too many. -/
theorem guess_more {n q r : Int} (h : Guess n q r) (hn : n < 42949672960000000000000000000) (ht : 4294967296 ≤ q ∨ 4294967296 * r + n % 4294967296 < q * 2313682944) : n / 10000000000000000000 ≤ q - 1 := by
  unfold Guess at h; omega
theorem guess_next {n q r : Int} (h : Guess n q r) (hn : n < 42949672960000000000000000000) (ht : 4294967296 ≤ q ∨ 4294967296 * r + n % 4294967296 < q * 2313682944) (hr : r + 2328306436 < 4294967296) : Guess n (q - 1) (r + 2328306436) := by
  have := guess_more h hn ht
  unfold Guess at *; omega
theorem guess_break {n q r : Int} (h : Guess n q r) (hn : n < 42949672960000000000000000000) (ht : 4294967296 ≤ q ∨ 4294967296 * r + n % 4294967296 < q * 2313682944) (hr : 4294967296 ≤ r + 2328306436) : q - 1 = n / 10000000000000000000 := by
  have := guess_more h hn ht
  unfold Guess at *; omega
theorem guess_b {n q r : Int} (h : Guess n q r) (hn0 : 0 ≤ n) : 0 ≤ q ∧ q ≤ 4294967296 ∧ 0 ≤ r ∧ r < 4294967296 := by unfold Guess at h; omega
/-- What is left behind half a quotient. -/
theorem half_rest (n : Int) (h0 : 0 ≤ n) (h : n < 42949672960000000000000000000) : ((n / 4294967296 * 4294967296 % 18446744073709551616 + n % 4294967296) % 18446744073709551616 - n / 10000000000000000000 * 10000000000000000000 % 18446744073709551616) % 18446744073709551616 = n % 10000000000000000000 := by omega
/-- Both halves together. -/
theorem both {hi lo n m : Int} (h0 : 0 ≤ hi) (h1 : hi < 10000000000000000000) (l0 : 0 ≤ lo) (l1 : lo < 18446744073709551616)
    (hn : n = hi * 4294967296 + lo / 4294967296) (hm : m = n % 10000000000000000000 * 4294967296 + lo % 4294967296) :
    n / 10000000000000000000 * 4294967296 + m / 10000000000000000000 = (hi * 18446744073709551616 + lo) / 10000000000000000000 ∧ m % 10000000000000000000 = (hi * 18446744073709551616 + lo) % 10000000000000000000 ∧
    0 ≤ n ∧ n < 42949672960000000000000000000 ∧ 0 ≤ m ∧ m < 42949672960000000000000000000 := by omega
/-- Three words, from the highest on. -/
theorem parted_words {n : Int} (h : U192 n) (r2 r1 q2 q1 q0 : Int) (e2 : q2 = w2 n / 10000000000000000000) (f2 : r2 = w2 n % 10000000000000000000) (e1 : q1 = (r2 * 18446744073709551616 + w1 n) / 10000000000000000000) (f1 : r1 = (r2 * 18446744073709551616 + w1 n) % 10000000000000000000)
    (e0 : q0 = (r1 * 18446744073709551616 + w0 n) / 10000000000000000000) :
    w0 (n / 10000000000000000000) = q0 ∧ w1 (n / 10000000000000000000) = q1 ∧ w2 (n / 10000000000000000000) = q2 ∧ (r1 * 18446744073709551616 + w0 n) % 10000000000000000000 = n % 10000000000000000000 := by
  have e := of3_w h
  have a := w0_64 n; have b := w1_64 n; have c := w2_64 n
  generalize w0 n = x at *; generalize w1 n = y at *; generalize w2 n = z at *
  unfold of3 at e
  unfold W64 at *
  have hq : n / 10000000000000000000 = of3 q0 q1 q2 := by unfold of3; omega
  rw [hq, w0_of3 ⟨by omega, by omega⟩ ⟨by omega, by omega⟩ ⟨by omega, by omega⟩, w1_of3 ⟨by omega, by omega⟩ ⟨by omega, by omega⟩ ⟨by omega, by omega⟩, w2_of3 ⟨by omega, by omega⟩ ⟨by omega, by omega⟩ ⟨by omega, by omega⟩]
  omega
theorem parted_u {n : Int} (h : U192 n) : U192 (n / 10000000000000000000) := by unfold U192 at *; omega
/-- Ten times a number and a digit, a word at a time; what is carried on from each word. -/
theorem more_words {n d : Int} (h : U192 n) (d0 : 0 ≤ d) (d1 : d ≤ 9) (c0 c1 c2 : Int)
    (h0 : c0 = w0 n * 10 / 18446744073709551616 + (w0 n * 10 % 18446744073709551616 + d) / 18446744073709551616)
    (h1 : c1 = w1 n * 10 / 18446744073709551616 + (w1 n * 10 % 18446744073709551616 + c0) / 18446744073709551616)
    (h2 : c2 = w2 n * 10 / 18446744073709551616 + (w2 n * 10 % 18446744073709551616 + c1) / 18446744073709551616) :
    (0 ≤ c0 ∧ c0 ≤ 9) ∧ (0 ≤ c1 ∧ c1 ≤ 9) ∧ (0 ≤ c2 ∧ c2 ≤ 9) ∧ (c2 = 0 ↔ 10 * n + d < 6277101735386680763835789423207666416102355444464034512896) ∧
    ((w0 n * 10 % 18446744073709551616 + d) % 18446744073709551616 = w0 (10 * n + d) ∧ (w1 n * 10 % 18446744073709551616 + c0) % 18446744073709551616 = w1 (10 * n + d) ∧ (w2 n * 10 % 18446744073709551616 + c1) % 18446744073709551616 = w2 (10 * n + d)) := by
  have e := of3_w h
  have a := w0_64 n; have b := w1_64 n; have c := w2_64 n
  generalize w0 n = x at *; generalize w1 n = y at *; generalize w2 n = z at *
  subst e
  unfold W64 at *
  have k0 : 0 ≤ c0 ∧ c0 ≤ 9 := by omega
  have k1 : 0 ≤ c1 ∧ c1 ≤ 9 := by omega
  have k2 : 0 ≤ c2 ∧ c2 ≤ 9 := by omega
  obtain ⟨m0, g0, v0⟩ : ∃ m, (x * 10 % 18446744073709551616 + d) % 18446744073709551616 = m ∧ W64 m := ⟨_, rfl, by unfold W64; omega⟩
  obtain ⟨m1, g1, v1⟩ : ∃ m, (y * 10 % 18446744073709551616 + c0) % 18446744073709551616 = m ∧ W64 m := ⟨_, rfl, by unfold W64; omega⟩
  obtain ⟨m2, g2, v2⟩ : ∃ m, (z * 10 % 18446744073709551616 + c1) % 18446744073709551616 = m ∧ W64 m := ⟨_, rfl, by unfold W64; omega⟩
  have i0 : 10 * x + d = 18446744073709551616 * c0 + m0 := by omega
  have i1 : 10 * y + c0 = 18446744073709551616 * c1 + m1 := by omega
  have i2 : 10 * z + c1 = 18446744073709551616 * c2 + m2 := by omega
  rw [g0, g1, g2]
  clear g0 g1 g2 h0 h1 h2
  have i : 10 * of3 x y z + d = of3 m0 m1 m2 + 6277101735386680763835789423207666416102355444464034512896 * c2 := by unfold of3; omega
  refine ⟨k0, k1, k2, ?_, ?_⟩
  · rw [i]; unfold of3; unfold W64 at *; omega
  · rw [i]; unfold of3 w0 w1 w2; unfold W64 at *
    have h1 : (m0 + 18446744073709551616 * m1 + 340282366920938463463374607431768211456 * m2 + 6277101735386680763835789423207666416102355444464034512896 * c2) / 18446744073709551616 = m1 + 18446744073709551616 * (m2 + 18446744073709551616 * c2) := by omega
    have h2 : (m0 + 18446744073709551616 * m1 + 340282366920938463463374607431768211456 * m2 + 6277101735386680763835789423207666416102355444464034512896 * c2) / 340282366920938463463374607431768211456 = m2 + 18446744073709551616 * c2 := by omega
    rw [h1, h2]
    omega
end Go.Proofs.YtakkifedcbhgfaaDoor.MDiv
