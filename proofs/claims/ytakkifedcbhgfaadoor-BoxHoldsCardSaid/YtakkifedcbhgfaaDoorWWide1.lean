/- A bit of a wide number, and one bit more, as the reference has them. -/
import Derived.Test.YtakkifedcbhgfaaDoorBase
import Derived.Handy
import Derived.Test.YtakkifedcbhgfaaDoorMWide
namespace Go.Proofs.YtakkifedcbhgfaaDoor.K
open Go Go.RowKit Go.Proofs.YtakkifedcbhgfaaDoorW.PrintWords Go.Proofs.YtakkifedcbhgfaaDoorW.PrintLast Go.Proofs.YtakkifedcbhgfaaDoorW.PrintMore
set_option linter.unusedVariables false
set_option linter.unusedSimpArgs false
open Go.Proofs.YtakkifedcbhgfaaDoor.MWide (bt W64 U192 addV subV addOk subOk)
theorem or_bit_nat (x r : Nat) (h : x / 2 ^ r % 2 = 0) : x ||| 2 ^ r = x + 2 ^ r := by
  have hp : 0 < 2 ^ r := Nat.two_pow_pos r
  have hb : x.testBit r = false := by
    rw [Nat.testBit_eq_decide_div_mod_eq, h]; rfl
  have hd : (x + 2 ^ r) / 2 ^ (r + 1) = x / 2 ^ (r + 1) := by
    have e1 : (2 : Nat) ^ (r + 1) = 2 ^ r * 2 := Nat.pow_succ 2 r
    rw [e1, ← Nat.div_div_eq_div_mul, ← Nat.div_div_eq_div_mul, Nat.add_div_right _ hp]
    omega
  apply Nat.eq_of_testBit_eq
  intro j
  rw [Nat.testBit_or, Nat.testBit_two_pow]
  rcases Nat.lt_trichotomy j r with hj | hj | hj
  · rw [Nat.add_comm x, Nat.testBit_two_pow_add_gt hj]
    have : decide (r = j) = false := decide_eq_false (by omega)
    rw [this, Bool.or_false]
  · subst hj
    rw [Nat.add_comm x, Nat.testBit_two_pow_add_eq, hb]
    simp
  · have e : j = (j - (r + 1)) + (r + 1) := by omega
    rw [e, ← Nat.testBit_div_two_pow, ← Nat.testBit_div_two_pow, hd]
    have : decide (r = (j - (r + 1)) + (r + 1)) = false := decide_eq_false (by omega)
    rw [this, Bool.or_false]
theorem or_bit (x : Int) (r : Nat) (hr : r < 64) (h : MWide.W64 x) (hz : x / 2 ^ r % 2 = 0) : Go.bits .or .u64 x (IntKind.u64.wrap (2 ^ r)) = x + 2 ^ r := by
  have hw : IntKind.u64.wrap (2 ^ r) = 2 ^ r := by
    refine MOct.wraps_u64 _ (Int.le_of_lt (MWide.p2 r)) ?_
    have : (2 : Nat) ^ r < 2 ^ 64 := Nat.pow_lt_pow_right (by decide) hr
    exact_mod_cast this
  rw [hw]
  obtain ⟨h0, h1⟩ := h
  obtain ⟨n, rfl⟩ := Int.eq_ofNat_of_zero_le h0
  have h2 : n < 2 ^ 64 := by omega
  have h3 : (2 : Nat) ^ r < 2 ^ 64 := Nat.pow_lt_pow_right (by decide) hr
  have hz2 : n / 2 ^ r % 2 = 0 := by
    have : ((n / 2 ^ r % 2 : Nat) : Int) = 0 := by push_cast; exact hz
    exact_mod_cast this
  rw [show (2 : Int) ^ r = ((2 ^ r : Nat) : Int) by push_cast; rfl, (bits_nat .u64 64 (by decide) MOct.wraps_u64 n (2 ^ r) h2 h3).2, or_bit_nat n r hz2]
  push_cast; rfl
theorem and1_u64 (b : Int) (h0 : 0 ≤ b) (h : b < 18446744073709551616) : Go.bits .and .u64 b 1 = b % 2 :=
  bits_mask .u64 64 (by decide) MOct.wraps_u64 1 (by decide) b h0 h
theorem shr_b {x : Int} (h0 : 0 ≤ x) (h : x < 18446744073709551616) (k : Nat) : 0 ≤ x / 2 ^ k ∧ x / 2 ^ k < 18446744073709551616 :=
  ⟨Int.ediv_nonneg h0 (Int.le_of_lt (MWide.p2 k)), Int.lt_of_le_of_lt (Int.ediv_le_self _ h0) h⟩
theorem bit_calls (a : Int) (i : Nat) (w : World) (hi : i < 192) :
    Calls Tryd.prog 76 #[.agg #[.int .u64 (MWide.w0 a), .int .u64 (MWide.w1 a), .int .u64 (MWide.w2 a)], .int .i64 i] w fun e w' => e = .returned (.int .u64 (bt a i)) ∧ Bel w w' := by
  have hb := MWide.bt_w a i hi
  have h0 := MWide.w0_64 a; have h1 := MWide.w1_64 a; have h2 := MWide.w2_64 a
  unfold W64 at h0 h1 h2
  have a0 := shr_b h0.1 h0.2 (i % 64); have a1 := shr_b h1.1 h1.2 (i % 64); have a2 := shr_b h2.1 h2.2 (i % 64)
  have d0 := and1_u64 _ a0.1 a0.2
  have d1 := and1_u64 _ a1.1 a1.2
  have d2 := and1_u64 _ a2.1 a2.2
  by_cases hc : i < 64
  · rw [if_pos hc, ← d0] at hb
    have HB := Lib.hid hb
    have hq : i / 64 = 0 := by omega
    have hq' : (i : Int) / 64 = 0 := by omega
    clear hb d0 d1 d2
    go_enter Tryd.func76, Tryd.ntmps76
    go_wp2
    go_ret
    exact ⟨by rw [HB.out]; rfl, (Bel.refl w).alloc (Nat.le_refl _) _⟩
  · by_cases hc2 : i < 128
    · rw [if_neg hc, if_pos hc2, ← d1] at hb
      have HB := Lib.hid hb
      have hq : i / 64 = 1 := by omega
      have hq' : (i : Int) / 64 = 1 := by omega
      clear hb d0 d1 d2
      go_enter Tryd.func76, Tryd.ntmps76
      go_wp2
      go_ret
      exact ⟨by rw [HB.out]; rfl, (Bel.refl w).alloc (Nat.le_refl _) _⟩
    · rw [if_neg hc, if_neg hc2, ← d2] at hb
      have HB := Lib.hid hb
      have hq : i / 64 = 2 := by omega
      have hq' : (i : Int) / 64 = 2 := by omega
      clear hb d0 d1 d2
      go_enter Tryd.func76, Tryd.ntmps76
      go_wp2
      go_ret
      exact ⟨by rw [HB.out]; rfl, (Bel.refl w).alloc (Nat.le_refl _) _⟩
theorem put_calls (a : Int) (i : Nat) (w : World) (ha : U192 a) (hi : i < 192) (hz : bt a i = 0) :
    Calls Tryd.prog 77 #[.agg #[.int .u64 (MWide.w0 a), .int .u64 (MWide.w1 a), .int .u64 (MWide.w2 a)], .int .i64 i] w fun e w' => e = .returned (.agg #[.int .u64 (MWide.w0 (a + 2 ^ i)), .int .u64 (MWide.w1 (a + 2 ^ i)), .int .u64 (MWide.w2 (a + 2 ^ i))]) ∧ Bel w w' := by
  have h0 := MWide.w0_64 a; have h1 := MWide.w1_64 a; have h2 := MWide.w2_64 a
  by_cases hc : i < 64
  · have hq : i / 64 = 0 := by omega
    have hq' : (i : Int) / 64 = 0 := by omega
    have hm : i % 64 = i := by omega
    have hb := MWide.bt_w a i hi
    rw [if_pos hc] at hb
    have ho := or_bit (MWide.w0 a) (i % 64) (by omega) h0 (by rw [← hb]; exact hz)
    have hp : MWide.w0 (a + 2 ^ i) = Go.bits .or .u64 (MWide.w0 a) (IntKind.u64.wrap (2 ^ (i % 64))) ∧ MWide.w1 (a + 2 ^ i) = MWide.w1 a ∧ MWide.w2 (a + 2 ^ i) = MWide.w2 a := by rw [ho, hm]; exact MWide.put_w0 ha hc hz
    have HP := Lib.hid hp
    clear hz hb ho hp hm
    unfold W64 at h0 h1 h2
    go_enter Tryd.func77, Tryd.ntmps77
    go_wp2
    obtain ⟨e0, e1, e2⟩ := HP.out
    refine bodyPost_ret (v := .agg #[.int .u64 (MWide.w0 (a + 2 ^ i)), .int .u64 (MWide.w1 (a + 2 ^ i)), .int .u64 (MWide.w2 (a + 2 ^ i))]) ?_ rfl ⟨rfl, ((Bel.refl w).alloc (Nat.le_refl _) _).alloc (by simp) _⟩
    rw [e0, e1, e2]
    simp [results, Tryd.results77, go_sem]
  · by_cases hc2 : i < 128
    · have hq : i / 64 = 1 := by omega
      have hq' : (i : Int) / 64 = 1 := by omega
      have hm : i % 64 = i - 64 := by omega
      have hb := MWide.bt_w a i hi
      rw [if_neg hc, if_pos hc2] at hb
      have ho := or_bit (MWide.w1 a) (i % 64) (by omega) h1 (by rw [← hb]; exact hz)
      have hp : MWide.w0 (a + 2 ^ i) = MWide.w0 a ∧ MWide.w1 (a + 2 ^ i) = Go.bits .or .u64 (MWide.w1 a) (IntKind.u64.wrap (2 ^ (i % 64))) ∧ MWide.w2 (a + 2 ^ i) = MWide.w2 a := by rw [ho, hm]; exact MWide.put_w1 ha (by omega) hc2 hz
      have HP := Lib.hid hp
      clear hz hb ho hp hm
      unfold W64 at h0 h1 h2
      go_enter Tryd.func77, Tryd.ntmps77
      go_wp2
      obtain ⟨e0, e1, e2⟩ := HP.out
      refine bodyPost_ret (v := .agg #[.int .u64 (MWide.w0 (a + 2 ^ i)), .int .u64 (MWide.w1 (a + 2 ^ i)), .int .u64 (MWide.w2 (a + 2 ^ i))]) ?_ rfl ⟨rfl, ((Bel.refl w).alloc (Nat.le_refl _) _).alloc (by simp) _⟩
      rw [e0, e1, e2]
      simp [results, Tryd.results77, go_sem]
    · have hq : i / 64 = 2 := by omega
      have hq' : (i : Int) / 64 = 2 := by omega
      have hm : i % 64 = i - 128 := by omega
      have hb := MWide.bt_w a i hi
      rw [if_neg hc, if_neg hc2] at hb
      have ho := or_bit (MWide.w2 a) (i % 64) (by omega) h2 (by rw [← hb]; exact hz)
      have hp : MWide.w0 (a + 2 ^ i) = MWide.w0 a ∧ MWide.w1 (a + 2 ^ i) = MWide.w1 a ∧ MWide.w2 (a + 2 ^ i) = Go.bits .or .u64 (MWide.w2 a) (IntKind.u64.wrap (2 ^ (i % 64))) := by rw [ho, hm]; exact MWide.put_w2 ha (by omega) hi hz
      have HP := Lib.hid hp
      clear hz hb ho hp hm
      unfold W64 at h0 h1 h2
      go_enter Tryd.func77, Tryd.ntmps77
      go_wp2
      obtain ⟨e0, e1, e2⟩ := HP.out
      refine bodyPost_ret (v := .agg #[.int .u64 (MWide.w0 (a + 2 ^ i)), .int .u64 (MWide.w1 (a + 2 ^ i)), .int .u64 (MWide.w2 (a + 2 ^ i))]) ?_ rfl ⟨rfl, ((Bel.refl w).alloc (Nat.le_refl _) _).alloc (by simp) _⟩
      rw [e0, e1, e2]
      simp [results, Tryd.results77, go_sem]

end Go.Proofs.YtakkifedcbhgfaaDoor.K
