/- Texts laid as one: A bit of a wide number, and one bit more, as the reference has them. · The reference's sum, bit by bit. · The reference's difference, bit by bit. · How two wide numbers stand, and how many bits one has, as the reference has them. · Go's sum and difference of two words with what is carried on. · Sums and differences, a word at a time. · Products and spans. · How wide numbers stand, and how many bits they have. · The reference's product. · A tenth, as the reference has it. · Go's way to part a number of two words, by 10^19. · A wide number parted by 10^19, and a piece's digits. -/
import Derived.Test.YtakkifedcbhgfaaDoorKB
import Derived.Handy
import Derived.Test.YtakkifedcbhgfaaDoorKM
import Derived.Shelf.Spec.BitsCarry
import Derived.Laws.Externs
import Derived.RegionTactic
import Derived.Shelf.Bits.Mul64
import Derived.Shelf.Strconv.Itoa0
namespace Go.Proofs.YtakkifedcbhgfaaDoor.K
open Go Go.RowKit Go.Proofs.YtakkifedcbhgfaaDoorW.PrintWords Go.Proofs.YtakkifedcbhgfaaDoorW.PrintLast Go.Proofs.YtakkifedcbhgfaaDoorW.PrintMore
set_option linter.unusedVariables false
set_option linter.unusedSimpArgs false
open Go.Proofs.YtakkifedcbhgfaaDoor.MWide (bt W64 U192 addV subV addOk subOk)
theorem or_bit_nat (x r : Nat) (h : x / 2 ^ r % 2 = 0) : x ||| 2 ^ r = x + 2 ^ r := by
  have hp : 0 < 2 ^ r := Nat.two_pow_pos r
  have hb : x.testBit r = false := by
    rw [Nat.testBit_eq_decide_div_mod_eq, h]; rfl
  have hd : (x + 2 ^ r) / 2 ^ (r + 1) = x / 2 ^ (r + 1) := by
    have e1 : (2 : Nat) ^ (r + 1) = 2 ^ r * 2 := Nat.pow_succ 2 r
    rw [e1, ← Nat.div_div_eq_div_mul, ← Nat.div_div_eq_div_mul, Nat.add_div_right _ hp]
    omega
  apply Nat.eq_of_testBit_eq
  intro j
  rw [Nat.testBit_or, Nat.testBit_two_pow]
  rcases Nat.lt_trichotomy j r with hj | hj | hj
  · rw [Nat.add_comm x, Nat.testBit_two_pow_add_gt hj]
    have : decide (r = j) = false := decide_eq_false (by omega)
    rw [this, Bool.or_false]
  · subst hj
    rw [Nat.add_comm x, Nat.testBit_two_pow_add_eq, hb]
    simp
  · have e : j = (j - (r + 1)) + (r + 1) := by omega
    rw [e, ← Nat.testBit_div_two_pow, ← Nat.testBit_div_two_pow, hd]
    have : decide (r = (j - (r + 1)) + (r + 1)) = false := decide_eq_false (by omega)
    rw [this, Bool.or_false]
theorem or_bit (x : Int) (r : Nat) (hr : r < 64) (h : MWide.W64 x) (hz : x / 2 ^ r % 2 = 0) : Go.bits .or .u64 x (IntKind.u64.wrap (2 ^ r)) = x + 2 ^ r := by
  have hw : IntKind.u64.wrap (2 ^ r) = 2 ^ r := by
    refine MOct.wraps_u64 _ (Int.le_of_lt (MWide.p2 r)) ?_
    have : (2 : Nat) ^ r < 2 ^ 64 := Nat.pow_lt_pow_right (by decide) hr
    exact_mod_cast this
  rw [hw]
  obtain ⟨h0, h1⟩ := h
  obtain ⟨n, rfl⟩ := Int.eq_ofNat_of_zero_le h0
  have h2 : n < 2 ^ 64 := by omega
  have h3 : (2 : Nat) ^ r < 2 ^ 64 := Nat.pow_lt_pow_right (by decide) hr
  have hz2 : n / 2 ^ r % 2 = 0 := by
    have : ((n / 2 ^ r % 2 : Nat) : Int) = 0 := by push_cast; exact hz
    exact_mod_cast this
  rw [show (2 : Int) ^ r = ((2 ^ r : Nat) : Int) by push_cast; rfl, (bits_nat .u64 64 (by decide) MOct.wraps_u64 n (2 ^ r) h2 h3).2, or_bit_nat n r hz2]
  push_cast; rfl
theorem and1_u64 (b : Int) (h0 : 0 ≤ b) (h : b < 18446744073709551616) : Go.bits .and .u64 b 1 = b % 2 :=
  bits_mask .u64 64 (by decide) MOct.wraps_u64 1 (by decide) b h0 h
theorem shr_b {x : Int} (h0 : 0 ≤ x) (h : x < 18446744073709551616) (k : Nat) : 0 ≤ x / 2 ^ k ∧ x / 2 ^ k < 18446744073709551616 :=
  ⟨Int.ediv_nonneg h0 (Int.le_of_lt (MWide.p2 k)), Int.lt_of_le_of_lt (Int.ediv_le_self _ h0) h⟩
theorem bit_calls (a : Int) (i : Nat) (w : World) (hi : i < 192) :
    Calls Tryd.prog 76 #[.agg #[.int .u64 (MWide.w0 a), .int .u64 (MWide.w1 a), .int .u64 (MWide.w2 a)], .int .i64 i] w fun e w' => e = .returned (.int .u64 (bt a i)) ∧ Bel w w' := by
  have hb := MWide.bt_w a i hi
  have h0 := MWide.w0_64 a; have h1 := MWide.w1_64 a; have h2 := MWide.w2_64 a
  unfold W64 at h0 h1 h2
  have a0 := shr_b h0.1 h0.2 (i % 64); have a1 := shr_b h1.1 h1.2 (i % 64); have a2 := shr_b h2.1 h2.2 (i % 64)
  have d0 := and1_u64 _ a0.1 a0.2
  have d1 := and1_u64 _ a1.1 a1.2
  have d2 := and1_u64 _ a2.1 a2.2
  by_cases hc : i < 64
  · rw [if_pos hc, ← d0] at hb
    have HB := Lib.hid hb
    have hq : i / 64 = 0 := by omega
    have hq' : (i : Int) / 64 = 0 := by omega
    clear hb d0 d1 d2
    go_enter Tryd.func76, Tryd.ntmps76
    go_wp2
    go_ret
    exact ⟨by rw [HB.out]; rfl, (Bel.refl w).alloc (Nat.le_refl _) _⟩
  · by_cases hc2 : i < 128
    · rw [if_neg hc, if_pos hc2, ← d1] at hb
      have HB := Lib.hid hb
      have hq : i / 64 = 1 := by omega
      have hq' : (i : Int) / 64 = 1 := by omega
      clear hb d0 d1 d2
      go_enter Tryd.func76, Tryd.ntmps76
      go_wp2
      go_ret
      exact ⟨by rw [HB.out]; rfl, (Bel.refl w).alloc (Nat.le_refl _) _⟩
    · rw [if_neg hc, if_neg hc2, ← d2] at hb
      have HB := Lib.hid hb
      have hq : i / 64 = 2 := by omega
      have hq' : (i : Int) / 64 = 2 := by omega
      clear hb d0 d1 d2
      go_enter Tryd.func76, Tryd.ntmps76
      go_wp2
      go_ret
      exact ⟨by rw [HB.out]; rfl, (Bel.refl w).alloc (Nat.le_refl _) _⟩
theorem put_calls (a : Int) (i : Nat) (w : World) (ha : U192 a) (hi : i < 192) (hz : bt a i = 0) :
    Calls Tryd.prog 77 #[.agg #[.int .u64 (MWide.w0 a), .int .u64 (MWide.w1 a), .int .u64 (MWide.w2 a)], .int .i64 i] w fun e w' => e = .returned (.agg #[.int .u64 (MWide.w0 (a + 2 ^ i)), .int .u64 (MWide.w1 (a + 2 ^ i)), .int .u64 (MWide.w2 (a + 2 ^ i))]) ∧ Bel w w' := by
  have h0 := MWide.w0_64 a; have h1 := MWide.w1_64 a; have h2 := MWide.w2_64 a
  by_cases hc : i < 64
  · have hq : i / 64 = 0 := by omega
    have hq' : (i : Int) / 64 = 0 := by omega
    have hm : i % 64 = i := by omega
    have hb := MWide.bt_w a i hi
    rw [if_pos hc] at hb
    have ho := or_bit (MWide.w0 a) (i % 64) (by omega) h0 (by rw [← hb]; exact hz)
    have hp : MWide.w0 (a + 2 ^ i) = Go.bits .or .u64 (MWide.w0 a) (IntKind.u64.wrap (2 ^ (i % 64))) ∧ MWide.w1 (a + 2 ^ i) = MWide.w1 a ∧ MWide.w2 (a + 2 ^ i) = MWide.w2 a := by rw [ho, hm]; exact MWide.put_w0 ha hc hz
    have HP := Lib.hid hp
    clear hz hb ho hp hm
    unfold W64 at h0 h1 h2
    go_enter Tryd.func77, Tryd.ntmps77
    go_wp2
    obtain ⟨e0, e1, e2⟩ := HP.out
    refine bodyPost_ret (v := .agg #[.int .u64 (MWide.w0 (a + 2 ^ i)), .int .u64 (MWide.w1 (a + 2 ^ i)), .int .u64 (MWide.w2 (a + 2 ^ i))]) ?_ rfl ⟨rfl, ((Bel.refl w).alloc (Nat.le_refl _) _).alloc (by simp) _⟩
    rw [e0, e1, e2]
    simp [results, Tryd.results77, go_sem]
  · by_cases hc2 : i < 128
    · have hq : i / 64 = 1 := by omega
      have hq' : (i : Int) / 64 = 1 := by omega
      have hm : i % 64 = i - 64 := by omega
      have hb := MWide.bt_w a i hi
      rw [if_neg hc, if_pos hc2] at hb
      have ho := or_bit (MWide.w1 a) (i % 64) (by omega) h1 (by rw [← hb]; exact hz)
      have hp : MWide.w0 (a + 2 ^ i) = MWide.w0 a ∧ MWide.w1 (a + 2 ^ i) = Go.bits .or .u64 (MWide.w1 a) (IntKind.u64.wrap (2 ^ (i % 64))) ∧ MWide.w2 (a + 2 ^ i) = MWide.w2 a := by rw [ho, hm]; exact MWide.put_w1 ha (by omega) hc2 hz
      have HP := Lib.hid hp
      clear hz hb ho hp hm
      unfold W64 at h0 h1 h2
      go_enter Tryd.func77, Tryd.ntmps77
      go_wp2
      obtain ⟨e0, e1, e2⟩ := HP.out
      refine bodyPost_ret (v := .agg #[.int .u64 (MWide.w0 (a + 2 ^ i)), .int .u64 (MWide.w1 (a + 2 ^ i)), .int .u64 (MWide.w2 (a + 2 ^ i))]) ?_ rfl ⟨rfl, ((Bel.refl w).alloc (Nat.le_refl _) _).alloc (by simp) _⟩
      rw [e0, e1, e2]
      simp [results, Tryd.results77, go_sem]
    · have hq : i / 64 = 2 := by omega
      have hq' : (i : Int) / 64 = 2 := by omega
      have hm : i % 64 = i - 128 := by omega
      have hb := MWide.bt_w a i hi
      rw [if_neg hc, if_neg hc2] at hb
      have ho := or_bit (MWide.w2 a) (i % 64) (by omega) h2 (by rw [← hb]; exact hz)
      have hp : MWide.w0 (a + 2 ^ i) = MWide.w0 a ∧ MWide.w1 (a + 2 ^ i) = MWide.w1 a ∧ MWide.w2 (a + 2 ^ i) = Go.bits .or .u64 (MWide.w2 a) (IntKind.u64.wrap (2 ^ (i % 64))) := by rw [ho, hm]; exact MWide.put_w2 ha (by omega) hi hz
      have HP := Lib.hid hp
      clear hz hb ho hp hm
      unfold W64 at h0 h1 h2
      go_enter Tryd.func77, Tryd.ntmps77
      go_wp2
      obtain ⟨e0, e1, e2⟩ := HP.out
      refine bodyPost_ret (v := .agg #[.int .u64 (MWide.w0 (a + 2 ^ i)), .int .u64 (MWide.w1 (a + 2 ^ i)), .int .u64 (MWide.w2 (a + 2 ^ i))]) ?_ rfl ⟨rfl, ((Bel.refl w).alloc (Nat.le_refl _) _).alloc (by simp) _⟩
      rw [e0, e1, e2]
      simp [results, Tryd.results77, go_sem]

end Go.Proofs.YtakkifedcbhgfaaDoor.K
namespace Go.Proofs.YtakkifedcbhgfaaDoor.K
open Go Go.RowKit Go.Proofs.YtakkifedcbhgfaaDoorW.PrintWords Go.Proofs.YtakkifedcbhgfaaDoorW.PrintLast Go.Proofs.YtakkifedcbhgfaaDoorW.PrintMore
set_option linter.unusedVariables false
set_option linter.unusedSimpArgs false
open Go.Proofs.YtakkifedcbhgfaaDoor.MWide (bt W64 U192 addV subV addOk subOk cry sumO bor difO)
theorem lt192 {x : Int} {k : Nat} (h0 : 0 ≤ x) (h : x < 2 ^ k) (hk : k ≤ 192) : U192 x := by
  refine ⟨h0, Int.lt_of_lt_of_le h ?_⟩
  have := MWide.p2_mono hk
  rw [show (2 : Int) ^ 192 = 6277101735386680763835789423207666416102355444464034512896 from rfl] at this
  exact this
set_option maxHeartbeats 1000000 in
set_option maxRecDepth 100000 in
theorem refAdd_calls (a b : Int) (w : World) (ha : U192 a) (hb : U192 b) :
    Calls Tryd.prog 35 #[.agg #[.int .u64 (MWide.w0 a), .int .u64 (MWide.w1 a), .int .u64 (MWide.w2 a)], .agg #[.int .u64 (MWide.w0 b), .int .u64 (MWide.w1 b), .int .u64 (MWide.w2 b)]] w fun e w' => e = .returned (.tuple #[.agg #[.int .u64 (MWide.w0 (addV a b)), .int .u64 (MWide.w1 (addV a b)), .int .u64 (MWide.w2 (addV a b))], .bool (addOk a b)]) ∧ Bel w w' := by
  have HA := Lib.hid ha; have HB := Lib.hid hb
  clear ha hb
  go_enter Tryd.func35, Tryd.ntmps35
  go_wp2
  go_loopw [7, 8] (fun c i wr => ∃ k : Nat, k ≤ 192 ∧ i = .int .i64 k ∧ c = .int .u64 (cry a b k) ∧ Hid (Below w.heap.size w wr) ∧ Blk wr w.heap.size #[.int .u64 (MWide.w0 a), .int .u64 (MWide.w1 a), .int .u64 (MWide.w2 a)] 24 ∧ Blk wr (w.heap.size + 1) #[.int .u64 (MWide.w0 b), .int .u64 (MWide.w1 b), .int .u64 (MWide.w2 b)] 24 ∧ Blk wr (w.heap.size + 1 + 1) #[.int .u64 0, .int .u64 0, .int .u64 0] 24 ∧ Blk wr (w.heap.size + 1 + 1 + 1) #[.int .u64 (MWide.w0 (sumO a b k)), .int .u64 (MWide.w1 (sumO a b k)), .int .u64 (MWide.w2 (sumO a b k))] 24) (fun _ i _ => 192 - (intOf i).toNat)
  case atStart =>
    have h0 := MWide.cry_0 a b
    refine ⟨0, by omega, rfl, by rw [h0.1], Lib.hid ?_, ?_, ?_, ?_, ?_⟩
    · exact ((((Below.refl _ w).alloc (Nat.le_refl _) _).alloc (by simp) _).alloc (by simp; omega) _).alloc (by simp; omega) _
    · exact (((Blk.new w _ 24).alloc _).alloc _).alloc _
    · exact ((Blk.new_at (by simp) _ 24).alloc _).alloc _
    · exact (Blk.new_at (by simp) _ 24).alloc _
    · rw [h0.2]
      exact Blk.new_at (by simp) _ 24
  case round =>
    obtain ⟨k, hk, rfl, rfl, HBel, hba, hbb, hbr, hbo⟩ := hrel
    obtain ⟨a0, a1, a2⟩ := hba.cells3
    obtain ⟨b0, b1, b2⟩ := hbb.cells3
    obtain ⟨o0, o1, o2⟩ := hbo.cells3
    obtain ⟨r0, r1, r2⟩ := hbr.cells3
    by_cases hlt : k < 192
    · clear o0 o1 o2 r0 r1 r2
      obtain ⟨HS1, HS2⟩ := MWide.add_step a b k
      have HC := Lib.hid HS1
      have HO := Lib.hid HS2
      clear HS1 HS2
      have c01 := MWide.cry01 a b k
      have p01 := MWide.bt01 a k
      have q01 := MWide.bt01 b k
      have ht : Hid (0 ≤ bt a k + bt b k + cry a b k ∧ bt a k + bt b k + cry a b k ≤ 3) := Lib.hid (by omega)
      go_wp2_with fail
      go_region_held3 (fun w' => w'.cell? ⟨w.heap.size, 0, none⟩ = some (.int .u64 (MWide.w0 a)) ∧ w'.cell? ⟨w.heap.size, 1, none⟩ = some (.int .u64 (MWide.w1 a)) ∧ w'.cell? ⟨w.heap.size, 2, none⟩ = some (.int .u64 (MWide.w2 a)) ∧ w'.cell? ⟨w.heap.size + 1, 0, none⟩ = some (.int .u64 (MWide.w0 b)) ∧ w'.cell? ⟨w.heap.size + 1, 1, none⟩ = some (.int .u64 (MWide.w1 b)) ∧ w'.cell? ⟨w.heap.size + 1, 2, none⟩ = some (.int .u64 (MWide.w2 b)) ∧ Bel wr w') (first | exact kc6 hb (by assumption) | exact ⟨a0, a1, a2, b0, b1, b2, Bel.drew _⟩)
        (first | (go_at_call 76; refine (bit_calls _ k _ hlt).mono ?_; rintro e w' ⟨rfl, hb⟩))
      rename_i w1 hb1 hheld
      have hB := hheld.2.2.2.2.2.2
      clear hb1 hheld hb a0 a1 a2 b0 b1 b2
      have hoN := hbo.bel hB
      have haN := hba.bel hB
      have hbN := hbb.bel hB
      have hrN := hbr.bel hB
      obtain ⟨o0, o1, o2⟩ := hoN.cells3
      clear hba hbb hbr hbo
      have HBl := Lib.hid (bthen HBel.out hB)
      clear hB HBel
      have hw1 : IntKind.u64.wrap (bt a k + bt b k) = bt a k + bt b k := MOct.wraps_u64 _ (by omega) (by omega)
      have hw2 : IntKind.u64.wrap (bt a k + bt b k + cry a b k) = bt a k + bt b k + cry a b k := MOct.wraps_u64 _ (by omega) (by omega)
      have hand := and1_u64 (bt a k + bt b k + cry a b k) (by omega) (by omega)
      obtain ⟨s, hs⟩ : ∃ s, bt a k + bt b k + cry a b k = s := ⟨_, rfl⟩
      rw [hw1, hw2]
      rw [hs] at ht hand HC HO ⊢
      have hs0 := ht.out.1
      have hs3 := ht.out.2
      clear hw1 hw2 hs c01 p01 q01 ht
      by_cases h2 : s % 2 = 1
      · have hbit : (Go.bits .and .u64 s 1 == 1) = true := by rw [hand, beq_iff_eq]; exact h2
        have H2 := Lib.hid h2
        clear hand h2
        have hlo := MWide.sumO_lt a b k
        have hz := MWide.bt_lt hlo.1 hlo.2
        have HU : Hid (U192 (sumO a b k)) := Lib.hid (lt192 hlo.1 hlo.2 hk)
        have HZ := Lib.hid hz
        clear hlo hz
        go_wp2_with (go_at_call 77; refine (put_calls (sumO a b k) k _ HU.out hlt HZ.out).mono ?_; rintro e w2 ⟨rfl, hb2⟩; have o2N := hoN.bel hb2; obtain ⟨c0, c1, c2⟩ := o2N.cells3; have f0 := o2N.froz 0; have f1 := o2N.froz 1; have f2 := o2N.froz 2)
        go_roundw
        case rel =>
          refine ⟨k + 1, by omega, by go_num, by rw [HC.out], Lib.hid ?_, ?_, ?_, ?_, ?_⟩
          · exact below_set3 (bthen HBl.out hb2) (by omega) _ _ _
          · exact (haN.bel hb2).set3_ne (by omega)
          · exact (hbN.bel hb2).set3_ne (by omega)
          · exact (hrN.bel hb2).set3_ne (by omega)
          · rw [HO.out, H2.out, Int.mul_one]
            exact o2N.set3
        case measure => simp [intOf]; omega
      · have hbit : (Go.bits .and .u64 s 1 == 1) = false := by rw [hand, beq_eq_false_iff_ne]; exact h2
        have h20 : s % 2 = 0 := by omega
        have H2 := Lib.hid h20
        clear hand h2 h20
        go_wp2
        go_roundw
        case rel =>
          refine ⟨k + 1, by omega, by go_num, by rw [HC.out], HBl, haN, hbN, hrN, ?_⟩
          rw [HO.out, H2.out, Int.mul_zero, Int.add_zero]
          exact hoN
        case measure => simp [intOf]; omega
    · have hk192 : k = 192 := by omega
      subst hk192
      obtain ⟨ht1, ht2⟩ := MWide.cry_top HA.out HB.out
      have c01 := MWide.cry01 a b 192
      have f0 := hbr.froz 0
      have f1 := hbr.froz 1
      have f2 := hbr.froz 2
      by_cases hov : addOk a b = true
      · have hc0 : ¬ 0 < cry a b 192 := by
          have : cry a b 192 = 0 := ht1.2 (by unfold addOk at hov; simpa using hov)
          omega
        have hsum : sumO a b 192 = addV a b := by
          rw [ht2 (by unfold addOk at hov; simpa using hov)]; unfold addV; rw [if_pos hov]
        have HSU := Lib.hid hsum
        have HOV := Lib.hid hov
        clear ht1 ht2 hov hsum
        go_wp2
        refine bodyPost_ret (v := .tuple #[.agg #[.int .u64 (MWide.w0 (addV a b)), .int .u64 (MWide.w1 (addV a b)), .int .u64 (MWide.w2 (addV a b))], .bool (addOk a b)]) ?_ rfl ⟨rfl, below_set3 HBel.out (by omega) _ _ _⟩
        rw [HOV.out, ← HSU.out]
        obtain ⟨q0, q1, q2⟩ := (hbr.set3 (x' := .int .u64 (MWide.w0 (sumO a b 192))) (y' := .int .u64 (MWide.w1 (sumO a b 192))) (z' := .int .u64 (MWide.w2 (sumO a b 192)))).cells3
        simp [results, Tryd.results35, go_sem, q0, q1, q2]
      · have hc0 : 0 < cry a b 192 := by
          have : cry a b 192 ≠ 0 := fun h => hov (by unfold addOk; simpa using ht1.1 h)
          omega
        have hz : addV a b = 0 := by unfold addV; rw [if_neg hov]
        have HOV : Hid (addOk a b = false) := Lib.hid (by simpa using hov)
        have HZ := Lib.hid hz
        clear ht1 ht2 hov hz
        go_wp2
        refine bodyPost_ret (v := .tuple #[.agg #[.int .u64 (MWide.w0 (addV a b)), .int .u64 (MWide.w1 (addV a b)), .int .u64 (MWide.w2 (addV a b))], .bool (addOk a b)]) ?_ rfl ⟨rfl, below_set3 HBel.out (by omega) _ _ _⟩
        rw [HOV.out, HZ.out]
        obtain ⟨q0, q1, q2⟩ := (hbr.set3 (x' := .int .u64 0) (y' := .int .u64 0) (z' := .int .u64 0)).cells3
        simp [results, Tryd.results35, go_sem, q0, q1, q2]
        exact ⟨rfl, rfl, rfl⟩

end Go.Proofs.YtakkifedcbhgfaaDoor.K
namespace Go.Proofs.YtakkifedcbhgfaaDoor.K
open Go Go.RowKit Go.Proofs.YtakkifedcbhgfaaDoorW.PrintWords Go.Proofs.YtakkifedcbhgfaaDoorW.PrintLast Go.Proofs.YtakkifedcbhgfaaDoorW.PrintMore
set_option linter.unusedVariables false
set_option linter.unusedSimpArgs false
open Go.Proofs.YtakkifedcbhgfaaDoor.MWide (bt W64 U192 subV subOk bor difO)
set_option maxHeartbeats 1000000 in
set_option maxRecDepth 100000 in
theorem refSub_calls (a b : Int) (w : World) (ha : U192 a) (hb : U192 b) :
    Calls Tryd.prog 37 #[.agg #[.int .u64 (MWide.w0 a), .int .u64 (MWide.w1 a), .int .u64 (MWide.w2 a)], .agg #[.int .u64 (MWide.w0 b), .int .u64 (MWide.w1 b), .int .u64 (MWide.w2 b)]] w fun e w' => e = .returned (.tuple #[.agg #[.int .u64 (MWide.w0 (subV a b)), .int .u64 (MWide.w1 (subV a b)), .int .u64 (MWide.w2 (subV a b))], .bool (subOk a b)]) ∧ Bel w w' := by
  have HA := Lib.hid ha; have HB := Lib.hid hb
  clear ha hb
  go_enter Tryd.func37, Tryd.ntmps37
  go_wp2
  go_loopw [7, 8] (fun c i wr => ∃ k : Nat, k ≤ 192 ∧ i = .int .i64 k ∧ c = .int .u64 (bor a b k) ∧ Hid (Below w.heap.size w wr) ∧ Blk wr w.heap.size #[.int .u64 (MWide.w0 a), .int .u64 (MWide.w1 a), .int .u64 (MWide.w2 a)] 24 ∧ Blk wr (w.heap.size + 1) #[.int .u64 (MWide.w0 b), .int .u64 (MWide.w1 b), .int .u64 (MWide.w2 b)] 24 ∧ Blk wr (w.heap.size + 1 + 1) #[.int .u64 0, .int .u64 0, .int .u64 0] 24 ∧ Blk wr (w.heap.size + 1 + 1 + 1) #[.int .u64 (MWide.w0 (difO a b k)), .int .u64 (MWide.w1 (difO a b k)), .int .u64 (MWide.w2 (difO a b k))] 24) (fun _ i _ => 192 - (intOf i).toNat)
  case atStart =>
    have h0 := MWide.bor_0 a b
    refine ⟨0, by omega, rfl, by rw [h0.1], Lib.hid ?_, ?_, ?_, ?_, ?_⟩
    · exact ((((Below.refl _ w).alloc (Nat.le_refl _) _).alloc (by simp) _).alloc (by simp; omega) _).alloc (by simp; omega) _
    · exact (((Blk.new w _ 24).alloc _).alloc _).alloc _
    · exact ((Blk.new_at (by simp) _ 24).alloc _).alloc _
    · exact (Blk.new_at (by simp) _ 24).alloc _
    · rw [h0.2]
      exact Blk.new_at (by simp) _ 24
  case round =>
    obtain ⟨k, hk, rfl, rfl, HBel, hba, hbb, hbr, hbo⟩ := hrel
    obtain ⟨a0, a1, a2⟩ := hba.cells3
    obtain ⟨b0, b1, b2⟩ := hbb.cells3
    obtain ⟨o0, o1, o2⟩ := hbo.cells3
    obtain ⟨r0, r1, r2⟩ := hbr.cells3
    by_cases hlt : k < 192
    · clear o0 o1 o2 r0 r1 r2
      obtain ⟨HS1, HS2⟩ := MWide.sub_step a b k
      have HC := Lib.hid HS1
      have HO := Lib.hid HS2
      clear HS1 HS2
      have c01 := MWide.bor01 a b k
      have p01 := MWide.bt01 a k
      have q01 := MWide.bt01 b k
      go_wp2_with fail
      go_region_held3 (fun w' => w'.cell? ⟨w.heap.size, 0, none⟩ = some (.int .u64 (MWide.w0 a)) ∧ w'.cell? ⟨w.heap.size, 1, none⟩ = some (.int .u64 (MWide.w1 a)) ∧ w'.cell? ⟨w.heap.size, 2, none⟩ = some (.int .u64 (MWide.w2 a)) ∧ w'.cell? ⟨w.heap.size + 1, 0, none⟩ = some (.int .u64 (MWide.w0 b)) ∧ w'.cell? ⟨w.heap.size + 1, 1, none⟩ = some (.int .u64 (MWide.w1 b)) ∧ w'.cell? ⟨w.heap.size + 1, 2, none⟩ = some (.int .u64 (MWide.w2 b)) ∧ Bel wr w') (first | exact kc6 hb (by assumption) | exact ⟨a0, a1, a2, b0, b1, b2, Bel.drew _⟩)
        (first | (go_at_call 76; refine (bit_calls _ k _ hlt).mono ?_; rintro e w' ⟨rfl, hb⟩))
      rename_i w1 hb1 hheld
      have hB := hheld.2.2.2.2.2.2
      clear hb1 hheld hb a0 a1 a2 b0 b1 b2
      have hoN := hbo.bel hB
      have haN := hba.bel hB
      have hbN := hbb.bel hB
      have hrN := hbr.bel hB
      obtain ⟨o0, o1, o2⟩ := hoN.cells3
      clear hba hbb hbr hbo
      have HBl := Lib.hid (bthen HBel.out hB)
      clear hB HBel
      have hw1 : IntKind.u64.wrap (bt b k + bor a b k) = bt b k + bor a b k := MOct.wraps_u64 _ (by omega) (by omega)
      have hw2 : IntKind.u64.wrap (bt a k + (bt b k + bor a b k)) = bt a k + (bt b k + bor a b k) := MOct.wraps_u64 _ (by omega) (by omega)
      have hand := and1_u64 (bt a k + (bt b k + bor a b k)) (by omega) (by omega)
      obtain ⟨y, hy⟩ : ∃ y, bt b k + bor a b k = y := ⟨_, rfl⟩
      rw [hw1]
      rw [hy] at hw2 hand HC HO ⊢
      have hy0 : 0 ≤ y := by omega
      have hy2 : y ≤ 2 := by omega
      obtain ⟨x, hx⟩ : ∃ x, bt a k = x := ⟨_, rfl⟩
      rw [hx] at hw2 hand HC HO p01 ⊢
      have HW := Lib.hid hw2
      clear hw1 hw2 hy hx c01 q01
      obtain ⟨u, hu⟩ : ∃ u, u = x + y := ⟨_, rfl⟩
      by_cases hyx : x < y
      all_goals
        first | rw [if_pos (show y > x from hyx)] at HC | rw [if_neg (show ¬ y > x from hyx)] at HC
        by_cases h2 : (x + y) % 2 = 1
        · have hbit : (Go.bits .and .u64 (x + y) 1 == 1) = true := by rw [hand, beq_iff_eq]; exact h2
          have H2 := Lib.hid h2
          clear hand h2 hu
          have hlo := MWide.difO_lt a b k
          have hz := MWide.bt_lt hlo.1 hlo.2
          have HU : Hid (U192 (difO a b k)) := Lib.hid (lt192 hlo.1 hlo.2 hk)
          have HZ := Lib.hid hz
          clear hlo hz
          go_wp2_with (go_at_call 77; refine (put_calls (difO a b k) k _ HU.out hlt HZ.out).mono ?_; rintro e w2 ⟨rfl, hb2⟩; have o2N := hoN.bel hb2; obtain ⟨c0, c1, c2⟩ := o2N.cells3; have f0 := o2N.froz 0; have f1 := o2N.froz 1; have f2 := o2N.froz 2)
          go_roundw
          case rel =>
            refine ⟨k + 1, by omega, by go_num, by rw [HC.out], Lib.hid ?_, ?_, ?_, ?_, ?_⟩
            · exact below_set3 (bthen HBl.out hb2) (by omega) _ _ _
            · exact (haN.bel hb2).set3_ne (by omega)
            · exact (hbN.bel hb2).set3_ne (by omega)
            · exact (hrN.bel hb2).set3_ne (by omega)
            · rw [HO.out, H2.out, Int.mul_one]
              exact o2N.set3
          case measure => simp [intOf]; omega
        · have hbit : (Go.bits .and .u64 (x + y) 1 == 1) = false := by rw [hand, beq_eq_false_iff_ne]; exact h2
          have h20 : (x + y) % 2 = 0 := by omega
          have H2 := Lib.hid h20
          clear hu
          clear hand h2 h20
          go_wp2
          go_roundw
          case rel =>
            refine ⟨k + 1, by omega, by go_num, by rw [HC.out], HBl, haN, hbN, hrN, ?_⟩
            rw [HO.out, H2.out, Int.mul_zero, Int.add_zero]
            exact hoN
          case measure => simp [intOf]; omega
    · have hk192 : k = 192 := by omega
      subst hk192
      obtain ⟨ht1, ht2⟩ := MWide.bor_top HA.out HB.out
      have c01 := MWide.bor01 a b 192
      have f0 := hbr.froz 0
      have f1 := hbr.froz 1
      have f2 := hbr.froz 2
      by_cases hov : subOk a b = true
      · have hc0 : ¬ 0 < bor a b 192 := by
          have : bor a b 192 = 0 := ht1.2 (by unfold subOk at hov; simpa using hov)
          omega
        have hsum : difO a b 192 = subV a b := by
          rw [ht2 (by unfold subOk at hov; simpa using hov)]; unfold subV; rw [if_pos hov]
        have HSU := Lib.hid hsum
        have HOV := Lib.hid hov
        clear ht1 ht2 hov hsum
        go_wp2
        refine bodyPost_ret (v := .tuple #[.agg #[.int .u64 (MWide.w0 (subV a b)), .int .u64 (MWide.w1 (subV a b)), .int .u64 (MWide.w2 (subV a b))], .bool (subOk a b)]) ?_ rfl ⟨rfl, below_set3 HBel.out (by omega) _ _ _⟩
        rw [HOV.out, ← HSU.out]
        obtain ⟨q0, q1, q2⟩ := (hbr.set3 (x' := .int .u64 (MWide.w0 (difO a b 192))) (y' := .int .u64 (MWide.w1 (difO a b 192))) (z' := .int .u64 (MWide.w2 (difO a b 192)))).cells3
        simp [results, Tryd.results37, go_sem, q0, q1, q2]
      · have hc0 : 0 < bor a b 192 := by
          have : bor a b 192 ≠ 0 := fun h => hov (by unfold subOk; simpa using ht1.1 h)
          omega
        have hz : subV a b = 0 := by unfold subV; rw [if_neg hov]
        have HOV : Hid (subOk a b = false) := Lib.hid (by simpa using hov)
        have HZ := Lib.hid hz
        clear ht1 ht2 hov hz
        go_wp2
        refine bodyPost_ret (v := .tuple #[.agg #[.int .u64 (MWide.w0 (subV a b)), .int .u64 (MWide.w1 (subV a b)), .int .u64 (MWide.w2 (subV a b))], .bool (subOk a b)]) ?_ rfl ⟨rfl, below_set3 HBel.out (by omega) _ _ _⟩
        rw [HOV.out, HZ.out]
        obtain ⟨q0, q1, q2⟩ := (hbr.set3 (x' := .int .u64 0) (y' := .int .u64 0) (z' := .int .u64 0)).cells3
        simp [results, Tryd.results37, go_sem, q0, q1, q2]
        exact ⟨rfl, rfl, rfl⟩

end Go.Proofs.YtakkifedcbhgfaaDoor.K
namespace Go.Proofs.YtakkifedcbhgfaaDoor.K
open Go Go.RowKit Go.Proofs.YtakkifedcbhgfaaDoorW.PrintWords Go.Proofs.YtakkifedcbhgfaaDoorW.PrintLast Go.Proofs.YtakkifedcbhgfaaDoorW.PrintMore
set_option linter.unusedVariables false
set_option linter.unusedSimpArgs false
open Go.Proofs.YtakkifedcbhgfaaDoor.MWide (bt W64 U192 addV subV addOk subOk cry sumO bor difO cmpV width)
set_option maxHeartbeats 1000000 in
set_option maxRecDepth 100000 in
theorem refCmp_calls (a b : Int) (w : World) (ha : U192 a) (hb : U192 b) :
    Calls Tryd.prog 38 #[.agg #[.int .u64 (MWide.w0 a), .int .u64 (MWide.w1 a), .int .u64 (MWide.w2 a)], .agg #[.int .u64 (MWide.w0 b), .int .u64 (MWide.w1 b), .int .u64 (MWide.w2 b)]] w fun e w' => e = .returned (.int .i64 (cmpV a b)) ∧ Bel w w' := by
  have HA := Lib.hid ha; have HB := Lib.hid hb
  clear ha hb
  go_enter Tryd.func38, Tryd.ntmps38
  go_wp2
  go_loopw [5] (fun i wr => ∃ k : Nat, k ≤ 192 ∧ i = .int .i64 ((k : Int) - 1) ∧ Hid (a / 2 ^ k = b / 2 ^ k) ∧ Hid (Below w.heap.size w wr) ∧ Blk wr w.heap.size #[.int .u64 (MWide.w0 a), .int .u64 (MWide.w1 a), .int .u64 (MWide.w2 a)] 24 ∧ Blk wr (w.heap.size + 1) #[.int .u64 (MWide.w0 b), .int .u64 (MWide.w1 b), .int .u64 (MWide.w2 b)] 24) (fun i _ => (intOf i + 1).toNat)
  case atStart =>
    refine ⟨192, by omega, rfl, Lib.hid ?_, Lib.hid ?_, ?_, ?_⟩
    · have h1 := HA.out; have h2 := HB.out
      unfold U192 at h1 h2
      rw [show (2 : Int) ^ 192 = 6277101735386680763835789423207666416102355444464034512896 from rfl]
      omega
    · exact (((Below.refl _ w).alloc (Nat.le_refl _) _).alloc (by simp) _)
    · exact (Blk.new w _ 24).alloc _
    · exact Blk.new_at (by simp) _ 24
  case round =>
    obtain ⟨k, hk, rfl, HD, HBel, hba, hbb⟩ := hrel
    by_cases hlt : 0 < k
    · obtain ⟨j, rfl⟩ : ∃ j, k = j + 1 := ⟨k - 1, by omega⟩
      have hi : (((j + 1 : Nat) : Int) - 1) = (j : Int) := by omega
      rw [hi]
      clear hi
      obtain ⟨a0, a1, a2⟩ := hba.cells3
      obtain ⟨b0, b1, b2⟩ := hbb.cells3
      have hj : j < 192 := by omega
      go_wp2_with fail
      go_region_held3 (fun w' => w'.cell? ⟨w.heap.size, 0, none⟩ = some (.int .u64 (MWide.w0 a)) ∧ w'.cell? ⟨w.heap.size, 1, none⟩ = some (.int .u64 (MWide.w1 a)) ∧ w'.cell? ⟨w.heap.size, 2, none⟩ = some (.int .u64 (MWide.w2 a)) ∧ w'.cell? ⟨w.heap.size + 1, 0, none⟩ = some (.int .u64 (MWide.w0 b)) ∧ w'.cell? ⟨w.heap.size + 1, 1, none⟩ = some (.int .u64 (MWide.w1 b)) ∧ w'.cell? ⟨w.heap.size + 1, 2, none⟩ = some (.int .u64 (MWide.w2 b)) ∧ Bel wr w') (first | exact kc6 hb (by assumption) | exact ⟨a0, a1, a2, b0, b1, b2, Bel.drew _⟩)
        (first | (go_at_call 76; refine (bit_calls _ j _ hj).mono ?_; rintro e w' ⟨rfl, hb⟩))
      rename_i w1 hb1 hheld
      have hB := hheld.2.2.2.2.2.2
      clear hb1 hheld hb a0 a1 a2 b0 b1 b2
      have haN := hba.bel hB
      have hbN := hbb.bel hB
      have HBl := Lib.hid (bthen HBel.out hB)
      clear hba hbb hB HBel
      rcases Int.lt_trichotomy (bt a j) (bt b j) with hc | hc | hc
      · have b1 : (bt a j != bt b j) = true := by rw [bne_iff_ne]; omega
        have b2 : decide (bt a j < bt b j) = true := decide_eq_true hc
        have hl := MWide.cmp_lt HD.out hc
        have HV : Hid (cmpV a b = -1) := Lib.hid (by unfold cmpV; rw [if_pos hl])
        clear hc hl
        go_wp2
        go_ret
        exact ⟨by rw [HV.out]; rfl, HBl.out⟩
      · have b1 : (bt a j != bt b j) = false := by rw [hc]; exact bne_self_eq_false _
        have HE := Lib.hid (MWide.cmp_eq HD.out hc)
        clear hc
        go_wp2
        go_roundw
        case rel => exact ⟨j, by omega, rfl, HE, HBl, haN, hbN⟩
        case measure => simp [intOf]; try omega
      · have b1 : (bt a j != bt b j) = true := by rw [bne_iff_ne]; omega
        have b2 : decide (bt a j < bt b j) = false := decide_eq_false (by omega)
        have hl := MWide.cmp_lt HD.out.symm hc
        have HV : Hid (cmpV a b = 1) := Lib.hid (by unfold cmpV; rw [if_neg (by omega), if_neg (by omega)])
        clear hc hl
        go_wp2
        go_ret
        exact ⟨by rw [HV.out]; rfl, HBl.out⟩
    · have hk0 : k = 0 := by omega
      subst hk0
      have he : a = b := by have := HD.out; simpa using this
      have HV : Hid (cmpV a b = 0) := Lib.hid (by unfold cmpV; rw [if_neg (by omega), if_pos he])
      clear he
      go_wp2
      go_ret
      exact ⟨by rw [HV.out]; rfl, HBel.out⟩
set_option maxHeartbeats 1000000 in
set_option maxRecDepth 100000 in
theorem refWidth_calls (a : Int) (w : World) (ha : U192 a) :
    Calls Tryd.prog 40 #[.agg #[.int .u64 (MWide.w0 a), .int .u64 (MWide.w1 a), .int .u64 (MWide.w2 a)]] w fun e w' => e = .returned (.int .i64 (width a)) ∧ Bel w w' := by
  have HA := Lib.hid ha
  clear ha
  go_enter Tryd.func40, Tryd.ntmps40
  go_wp2
  go_loopw [3] (fun i wr => ∃ k : Nat, k ≤ 192 ∧ i = .int .i64 ((k : Int) - 1) ∧ Hid (a / 2 ^ k = 0) ∧ Hid (Below w.heap.size w wr) ∧ Blk wr w.heap.size #[.int .u64 (MWide.w0 a), .int .u64 (MWide.w1 a), .int .u64 (MWide.w2 a)] 24) (fun i _ => (intOf i + 1).toNat)
  case atStart =>
    refine ⟨192, by omega, rfl, Lib.hid ?_, Lib.hid ?_, ?_⟩
    · have h1 := HA.out
      unfold U192 at h1
      rw [show (2 : Int) ^ 192 = 6277101735386680763835789423207666416102355444464034512896 from rfl]
      omega
    · exact (Below.refl _ w).alloc (Nat.le_refl _) _
    · exact Blk.new w _ 24
  case round =>
    obtain ⟨k, hk, rfl, HD, HBel, hba⟩ := hrel
    by_cases hlt : 0 < k
    · obtain ⟨j, rfl⟩ : ∃ j, k = j + 1 := ⟨k - 1, by omega⟩
      have hi : (((j + 1 : Nat) : Int) - 1) = (j : Int) := by omega
      rw [hi]
      clear hi
      obtain ⟨a0, a1, a2⟩ := hba.cells3
      have hj : j < 192 := by omega
      have hd := MWide.div_succ a j
      rw [HD.out] at hd
      have b01 := MWide.bt01 a j
      by_cases h1 : bt a j = 1
      · have hbit : (bt a j == 1) = true := by rw [h1]; rfl
        have HV : Hid (width a = (j : Int) + 1) := Lib.hid (MWide.width_at (by rw [hd, h1]; rfl))
        clear hd h1 b01
        go_wp2_with (go_at_call 76; refine (bit_calls _ j _ hj).mono ?_; rintro e w' ⟨rfl, hb⟩; have HB2 := Lib.hid hb; clear hb)
        go_ret
        exact ⟨by rw [HV.out]; rfl, bthen HBel.out HB2.out⟩
      · have hbit : (bt a j == 1) = false := by rw [beq_eq_false_iff_ne]; exact h1
        have h0 : bt a j = 0 := by omega
        have HE : Hid (a / 2 ^ j = 0) := Lib.hid (by rw [hd, h0]; rfl)
        clear hd h1 b01 h0
        go_wp2_with (go_at_call 76; refine (bit_calls _ j _ hj).mono ?_; rintro e w' ⟨rfl, hb⟩; have HB2 := Lib.hid hb; clear hb)
        go_roundw
        case rel => exact ⟨j, by omega, rfl, HE, Lib.hid (bthen HBel.out HB2.out), hba.bel HB2.out⟩
        case measure => simp [intOf]; try omega
    · have hk0 : k = 0 := by omega
      subst hk0
      have he : a = 0 := by have := HD.out; simpa using this
      have HV : Hid (width a = 0) := Lib.hid (by rw [he]; rfl)
      clear he
      go_wp2
      go_ret
      exact ⟨by rw [HV.out]; rfl, HBel.out⟩

end Go.Proofs.YtakkifedcbhgfaaDoor.K
namespace Go.Proofs.YtakkifedcbhgfaaDoor.K
open Go Go.RowKit Go.Proofs.YtakkifedcbhgfaaDoorW.PrintWords Go.Proofs.YtakkifedcbhgfaaDoorW.PrintLast Go.Proofs.YtakkifedcbhgfaaDoorW.PrintMore
set_option linter.unusedVariables false
set_option linter.unusedSimpArgs false
open Go.Proofs.YtakkifedcbhgfaaDoor.MWide (bt W64 U192 addV subV addOk subOk cry sumO bor difO cmpV width)
theorem add64 (x y c : Int) (hx : W64 x) (hy : W64 y) (hc0 : 0 ≤ c) (hc : c ≤ 1) (w : World) : (callFunc 67 #[.int .u64 x, .int .u64 y, .int .u64 c]).run Tryd.prog w =
    .ok (.value (.tuple #[.int .u64 ((x + y + c) % 18446744073709551616), .int .u64 ((x + y + c) / 18446744073709551616)])) w := by
  obtain ⟨hx0, hx1⟩ := hx
  obtain ⟨hy0, hy1⟩ := hy
  obtain ⟨x, rfl⟩ := Int.eq_ofNat_of_zero_le hx0
  obtain ⟨y, rfl⟩ := Int.eq_ofNat_of_zero_le hy0
  obtain ⟨c, rfl⟩ := Int.eq_ofNat_of_zero_le hc0
  rw [run_callFunc_extern Tryd.func67 (by kernel_rfl) (by kernel_rfl) (by kernel_rfl) (e := add64Entry) (by kernel_rfl), run_add64 x y c (by omega) (by omega) (by omega) (by omega)]
  simp only [Result.andThen]
def brw (x y b : Int) : Int := if x < y + b then 1 else 0
theorem sub64 (x y b : Int) (hx : W64 x) (hy : W64 y) (hb0 : 0 ≤ b) (hb : b ≤ 1) (w : World) : (callFunc 78 #[.int .u64 x, .int .u64 y, .int .u64 b]).run Tryd.prog w =
    .ok (.value (.tuple #[.int .u64 ((x - y - b) % 18446744073709551616), .int .u64 (brw x y b)])) w := by
  obtain ⟨hx0, hx1⟩ := hx
  obtain ⟨hy0, hy1⟩ := hy
  obtain ⟨x, rfl⟩ := Int.eq_ofNat_of_zero_le hx0
  obtain ⟨y, rfl⟩ := Int.eq_ofNat_of_zero_le hy0
  obtain ⟨b, rfl⟩ := Int.eq_ofNat_of_zero_le hb0
  have e1 : (((x + 18446744073709551616 - y - b) % 18446744073709551616 : Nat) : Int) = ((x : Int) - y - b) % 18446744073709551616 := by omega
  have e2 : ((if x < y + b then 1 else 0 : Nat) : Int) = brw x y b := by unfold brw; split <;> split <;> omega
  rw [← e1, ← e2, run_callFunc_extern Tryd.func78 (by kernel_rfl) (by kernel_rfl) (by kernel_rfl) (e := sub64Entry) (by kernel_rfl), run_sub64 x y b (by omega)]
  rfl

end Go.Proofs.YtakkifedcbhgfaaDoor.K
namespace Go.Proofs.YtakkifedcbhgfaaDoor.K
open Go Go.RowKit Go.Proofs.YtakkifedcbhgfaaDoorW.PrintWords Go.Proofs.YtakkifedcbhgfaaDoorW.PrintLast Go.Proofs.YtakkifedcbhgfaaDoorW.PrintMore
set_option linter.unusedVariables false
set_option linter.unusedSimpArgs false
open Go.Proofs.YtakkifedcbhgfaaDoor.MWide (bt W64 U192 addV subV addOk subOk cry sumO bor difO cmpV width)
set_option maxHeartbeats 1000000 in
set_option maxRecDepth 100000 in
theorem Add_calls (a b : Int) (w : World) (ha : U192 a) (hb : U192 b) :
    Calls Tryd.prog 24 #[.agg #[.int .u64 (MWide.w0 a), .int .u64 (MWide.w1 a), .int .u64 (MWide.w2 a)], .agg #[.int .u64 (MWide.w0 b), .int .u64 (MWide.w1 b), .int .u64 (MWide.w2 b)]] w fun e w' => e = .returned (.tuple #[.agg #[.int .u64 (MWide.w0 (addV a b)), .int .u64 (MWide.w1 (addV a b)), .int .u64 (MWide.w2 (addV a b))], .bool (addOk a b)]) ∧ Bel w w' := by
  obtain ⟨c0, hc0⟩ : ∃ c, c = (MWide.w0 a + MWide.w0 b) / 18446744073709551616 := ⟨_, rfl⟩
  obtain ⟨c1, hc1⟩ : ∃ c, c = (MWide.w1 a + MWide.w1 b + c0) / 18446744073709551616 := ⟨_, rfl⟩
  obtain ⟨c2, hc2⟩ : ∃ c, c = (MWide.w2 a + MWide.w2 b + c1) / 18446744073709551616 := ⟨_, rfl⟩
  have H := Lib.hid (MWide.add_words ha hb c0 c1 c2 hc0 hc1 hc2)
  have HA := Lib.hid ha; have HB := Lib.hid hb
  have k0 := H.out.1; have k1 := H.out.2.1; have k2 := H.out.2.2.1
  have r0 := fun w => add64 (MWide.w0 a) (MWide.w0 b) 0 (MWide.w0_64 a) (MWide.w0_64 b) (Int.le_refl _) (by decide) w
  have r1 := fun w => add64 (MWide.w1 a) (MWide.w1 b) c0 (MWide.w1_64 a) (MWide.w1_64 b) k0.1 k0.2 w
  have r2 := fun w => add64 (MWide.w2 a) (MWide.w2 b) c1 (MWide.w2_64 a) (MWide.w2_64 b) k1.1 k1.2 w
  rw [Int.add_zero, ← hc0] at r0
  rw [← hc1] at r1
  rw [← hc2] at r2
  clear ha hb hc0 hc1 hc2
  go_enter Tryd.func24, Tryd.ntmps24
  go_wp2
  obtain ⟨-, -, -, hy, hn⟩ := H.out
  by_cases hov : addOk a b = true
  · obtain ⟨e2, s0, s1, s2⟩ := hy hov
    rw [s0] at r0
    rw [s1] at r1
    rw [s2] at r2
    have g2 : ¬ 0 < c2 := by omega
    have HOV := Lib.hid hov
    clear hy hn hov s0 s1 s2 e2 H k2
    refine wp_loop_rounds 4 ?_
    rw [rounds_succ]
    go_wp2
    go_region
    go_wp2
    rw [rounds_succ]
    go_wp2
    go_region
    go_wp2
    rw [rounds_succ]
    go_wp2
    go_region
    go_wp2
    rw [rounds_succ]
    go_wp2
    refine bodyPost_ret (v := .tuple #[.agg #[.int .u64 (MWide.w0 (addV a b)), .int .u64 (MWide.w1 (addV a b)), .int .u64 (MWide.w2 (addV a b))], .bool (addOk a b)]) ?_ rfl ⟨rfl, ?_⟩
    · rw [HOV.out]
      simp [results, Tryd.results24, go_sem]
    · (repeat (first | exact Below.refl _ _ | refine Below.drew ?_ | refine Below.alloc ?_ (by simp <;> omega) _))
  · have hov2 : addOk a b = false := by simpa using hov
    obtain ⟨e2, hz⟩ := hn hov2
    have g2 : 0 < c2 := by omega
    have HOV := Lib.hid hov2
    have HZ := Lib.hid hz
    clear hy hn hov hov2 hz e2 H k2
    refine wp_loop_rounds 4 ?_
    rw [rounds_succ]
    go_wp2
    go_region
    go_wp2
    rw [rounds_succ]
    go_wp2
    go_region
    go_wp2
    rw [rounds_succ]
    go_wp2
    go_region
    go_wp2
    rw [rounds_succ]
    go_wp2
    refine bodyPost_ret (v := .tuple #[.agg #[.int .u64 (MWide.w0 (addV a b)), .int .u64 (MWide.w1 (addV a b)), .int .u64 (MWide.w2 (addV a b))], .bool (addOk a b)]) ?_ rfl ⟨rfl, ?_⟩
    · rw [HOV.out, HZ.out]
      simp [results, Tryd.results24, go_sem]
      exact ⟨rfl, rfl, rfl⟩
    · (repeat (first | exact Below.refl _ _ | refine Below.drew ?_ | refine Below.alloc ?_ (by simp <;> omega) _))
set_option maxHeartbeats 1000000 in
set_option maxRecDepth 100000 in
theorem Sub_calls (a b : Int) (w : World) (ha : U192 a) (hb : U192 b) :
    Calls Tryd.prog 36 #[.agg #[.int .u64 (MWide.w0 a), .int .u64 (MWide.w1 a), .int .u64 (MWide.w2 a)], .agg #[.int .u64 (MWide.w0 b), .int .u64 (MWide.w1 b), .int .u64 (MWide.w2 b)]] w fun e w' => e = .returned (.tuple #[.agg #[.int .u64 (MWide.w0 (subV a b)), .int .u64 (MWide.w1 (subV a b)), .int .u64 (MWide.w2 (subV a b))], .bool (subOk a b)]) ∧ Bel w w' := by
  obtain ⟨c0, hc0⟩ : ∃ c, c = brw (MWide.w0 a) (MWide.w0 b) 0 := ⟨_, rfl⟩
  obtain ⟨c1, hc1⟩ : ∃ c, c = brw (MWide.w1 a) (MWide.w1 b) c0 := ⟨_, rfl⟩
  obtain ⟨c2, hc2⟩ : ∃ c, c = brw (MWide.w2 a) (MWide.w2 b) c1 := ⟨_, rfl⟩
  have H := Lib.hid (MWide.sub_words ha hb c0 c1 c2 (by rw [hc0]; unfold brw; rw [Int.add_zero]) hc1 hc2)
  have HA := Lib.hid ha; have HB := Lib.hid hb
  have k0 := H.out.1; have k1 := H.out.2.1; have k2 := H.out.2.2.1
  have r0 := fun w => sub64 (MWide.w0 a) (MWide.w0 b) 0 (MWide.w0_64 a) (MWide.w0_64 b) (Int.le_refl _) (by decide) w
  have r1 := fun w => sub64 (MWide.w1 a) (MWide.w1 b) c0 (MWide.w1_64 a) (MWide.w1_64 b) k0.1 k0.2 w
  have r2 := fun w => sub64 (MWide.w2 a) (MWide.w2 b) c1 (MWide.w2_64 a) (MWide.w2_64 b) k1.1 k1.2 w
  rw [Int.sub_zero, ← hc0] at r0
  rw [← hc1] at r1
  rw [← hc2] at r2
  clear ha hb hc0 hc1 hc2
  go_enter Tryd.func36, Tryd.ntmps36
  go_wp2
  obtain ⟨-, -, -, hy, hn⟩ := H.out
  by_cases hov : subOk a b = true
  · obtain ⟨e2, s0, s1, s2⟩ := hy hov
    rw [s0] at r0
    rw [s1] at r1
    rw [s2] at r2
    have g2 : ¬ 0 < c2 := by omega
    have HOV := Lib.hid hov
    clear hy hn hov s0 s1 s2 e2 H k2
    refine wp_loop_rounds 4 ?_
    rw [rounds_succ]
    go_wp2
    go_region
    go_wp2
    rw [rounds_succ]
    go_wp2
    go_region
    go_wp2
    rw [rounds_succ]
    go_wp2
    go_region
    go_wp2
    rw [rounds_succ]
    go_wp2
    refine bodyPost_ret (v := .tuple #[.agg #[.int .u64 (MWide.w0 (subV a b)), .int .u64 (MWide.w1 (subV a b)), .int .u64 (MWide.w2 (subV a b))], .bool (subOk a b)]) ?_ rfl ⟨rfl, ?_⟩
    · rw [HOV.out]
      simp [results, Tryd.results36, go_sem]
    · (repeat (first | exact Below.refl _ _ | refine Below.drew ?_ | refine Below.alloc ?_ (by simp <;> omega) _))
  · have hov2 : subOk a b = false := by simpa using hov
    obtain ⟨e2, hz⟩ := hn hov2
    have g2 : 0 < c2 := by omega
    have HOV := Lib.hid hov2
    have HZ := Lib.hid hz
    clear hy hn hov hov2 hz e2 H k2
    refine wp_loop_rounds 4 ?_
    rw [rounds_succ]
    go_wp2
    go_region
    go_wp2
    rw [rounds_succ]
    go_wp2
    go_region
    go_wp2
    rw [rounds_succ]
    go_wp2
    go_region
    go_wp2
    rw [rounds_succ]
    go_wp2
    refine bodyPost_ret (v := .tuple #[.agg #[.int .u64 (MWide.w0 (subV a b)), .int .u64 (MWide.w1 (subV a b)), .int .u64 (MWide.w2 (subV a b))], .bool (subOk a b)]) ?_ rfl ⟨rfl, ?_⟩
    · rw [HOV.out, HZ.out]
      simp [results, Tryd.results36, go_sem]
      exact ⟨rfl, rfl, rfl⟩
    · (repeat (first | exact Below.refl _ _ | refine Below.drew ?_ | refine Below.alloc ?_ (by simp <;> omega) _))

end Go.Proofs.YtakkifedcbhgfaaDoor.K
namespace Go.Proofs.YtakkifedcbhgfaaDoor.K
open Go Go.RowKit Go.Proofs.YtakkifedcbhgfaaDoorW.PrintWords Go.Proofs.YtakkifedcbhgfaaDoorW.PrintLast Go.Proofs.YtakkifedcbhgfaaDoorW.PrintMore
set_option linter.unusedVariables false
set_option linter.unusedSimpArgs false
open Go.Proofs.YtakkifedcbhgfaaDoor.MWide (bt W64 U192 addV subV addOk subOk cry sumO bor difO cmpV width)
def ren : Go.Shelf.Ren := ⟨fun k => if k = 264 then 61 else if k = 129 then 79 else 0, fun t => if t = 46 then 85 else if t = 53 then 22 else if t = 3 then 3 else if t = 4 then 4 else if t = 5 then 5 else if t = 9 then 9 else 0, fun _ => 0⟩
theorem layMul : Lays.n264 Tryd.prog ren := {
  mixed := by kernel_rfl
  f264 := Tryd.func61.trans (by kernel_rfl)
  t46 := Tryd.underlying85
  a46 := fun w => by simp [isAgg, ren, run_underlying Tryd.underlying85]
  z46 := fun w => by kernel_rfl
  v46 := fun w => by kernel_rfl
  t53 := Tryd.underlying22
  a53 := fun w => by simp [isAgg, ren, run_underlying Tryd.underlying22]
  z53 := fun w => by kernel_rfl
  v53 := fun w => by kernel_rfl }
theorem layLen : Lays.n129 Tryd.prog ren := {
  mixed := by kernel_rfl
  f129 := Tryd.func79.trans (by kernel_rfl)
  t3 := Tryd.underlying3
  a3 := fun w => by simp [isAgg, ren, run_underlying Tryd.underlying3]
  z3 := fun w => by kernel_rfl
  v3 := fun w => by kernel_rfl
  t4 := Tryd.underlying4
  a4 := fun w => by simp [isAgg, ren, run_underlying Tryd.underlying4]
  z4 := fun w => by kernel_rfl
  v4 := fun w => by kernel_rfl
  t5 := Tryd.underlying5
  a5 := fun w => by simp [isAgg, ren, run_underlying Tryd.underlying5]
  z5 := fun w => by kernel_rfl
  v5 := fun w => by kernel_rfl
  t9 := Tryd.underlying9
  a9 := fun w => by simp [isAgg, ren, run_underlying Tryd.underlying9]
  z9 := fun w => by kernel_rfl
  v9 := fun w => by kernel_rfl
  t46 := Tryd.underlying85
  a46 := fun w => by simp [isAgg, ren, run_underlying Tryd.underlying85]
  z46 := fun w => by kernel_rfl
  v46 := fun w => by kernel_rfl
  t53 := Tryd.underlying22
  a53 := fun w => by simp [isAgg, ren, run_underlying Tryd.underlying22]
  z53 := fun w => by kernel_rfl
  v53 := fun w => by kernel_rfl }
theorem Mul64_calls (x y : Int) (hx : W64 x) (hy : W64 y) (w : World) :
    Calls Tryd.prog 61 #[.int .u64 x, .int .u64 y] w fun e w' => e = .returned (.tuple #[.int .u64 (x * y / 18446744073709551616), .int .u64 (x * y % 18446744073709551616)]) ∧ w = w' := by
  obtain ⟨hx0, hx1⟩ := hx
  obtain ⟨hy0, hy1⟩ := hy
  obtain ⟨x, rfl⟩ := Int.eq_ofNat_of_zero_le hx0
  obtain ⟨y, rfl⟩ := Int.eq_ofNat_of_zero_le hy0
  have := Any.bits_Mul64 layMul x y (by omega) (by omega) w
  have e1 : ((x * y / 18446744073709551616 : Nat) : Int) = (x : Int) * y / 18446744073709551616 := by rw [Int.natCast_ediv, Int.natCast_mul]; rfl
  have e2 : ((x * y % 18446744073709551616 : Nat) : Int) = (x : Int) * y % 18446744073709551616 := by rw [Int.natCast_emod, Int.natCast_mul]; rfl
  rw [e1, e2] at this
  exact this.mono fun e w' h => ⟨h.1, h.2.symm⟩
theorem bitLen_width {x : Int} (h : W64 x) : ((Lib.bitLen x.toNat : Nat) : Int) = width x := by
  obtain ⟨h0, h1⟩ := h
  obtain ⟨n, rfl⟩ := Int.eq_ofNat_of_zero_le h0
  rw [Int.toNat_natCast]
  by_cases hz : n = 0
  · subst hz; rfl
  · have hl := Nat.log2_self_le hz
    have hg := Nat.lt_log2_self (n := n)
    rw [Lib.bitLen_shift n.log2 n hl (by omega)]
    have : n / 2 ^ n.log2 = 1 := Nat.div_eq_of_lt_le (by omega) (by rw [Nat.pow_succ] at hg; omega)
    rw [this]
    unfold width
    rw [if_neg (by omega), Int.toNat_natCast, show Lib.bitLen 1 = 1 from rfl]
    omega
theorem Len64_calls (x : Int) (h : W64 x) (w : World) : Calls Tryd.prog 79 #[.int .u64 x] w fun e w' => e = .returned (.int .i64 (width x)) ∧ w = w' := by
  have := Any.bits_Len64 layLen x w h.1 (by have := h.2; omega)
  rw [bitLen_width h] at this
  exact this.mono fun e w' h => ⟨h.1, h.2.symm⟩
theorem Of_calls (n : Int) (h : W64 n) (w : World) : Calls Tryd.prog 18 #[.int .u64 n] w fun e w' => e = .returned (.agg #[.int .u64 (MWide.w0 n), .int .u64 (MWide.w1 n), .int .u64 (MWide.w2 n)]) ∧ Bel w w' := by
  have H := Lib.hid h
  clear h
  go_enter Tryd.func18, Tryd.ntmps18
  go_wp2
  refine bodyPost_ret (v := .agg #[.int .u64 (MWide.w0 n), .int .u64 (MWide.w1 n), .int .u64 (MWide.w2 n)]) ?_ rfl ⟨rfl, (by repeat (first | exact Below.refl _ _ | refine Below.drew ?_ | refine Below.alloc ?_ (by simp <;> omega) _))⟩
  rw [MWide.w0_64' H.out, MWide.w1_64' H.out, MWide.w2_64' H.out]
  simp [results, Tryd.results18, go_sem]
def spanV (a b : Int) : Int := if b < a then 0 else b - a
theorem spanV_64 {a b : Int} (ha0 : -9223372036854775808 ≤ a) (ha1 : a ≤ 9223372036854775807) (hb0 : -9223372036854775808 ≤ b) (hb1 : b ≤ 9223372036854775807) : W64 (spanV a b) := by
  unfold spanV W64; split <;> omega
theorem Span_calls (a b : Int) (ha0 : -9223372036854775808 ≤ a) (ha1 : a ≤ 9223372036854775807) (hb0 : -9223372036854775808 ≤ b) (hb1 : b ≤ 9223372036854775807) (w : World) :
    Calls Tryd.prog 16 #[.int .i64 a, .int .i64 b] w fun e w' => e = .returned (.int .u64 (spanV a b)) ∧ w = w' := by
  by_cases h : b < a
  · have hs : spanV a b = 0 := by unfold spanV; rw [if_pos h]
    have HS := Lib.hid hs
    clear hs
    go_enter Tryd.func16, Tryd.ntmps16
    go_wp2
    go_ret
    exact ⟨by rw [HS.out]; rfl, rfl⟩
  · have hs : spanV a b = IntKind.u64.wrap (IntKind.u64.wrap b - IntKind.u64.wrap a) := by
      unfold spanV; rw [if_neg h, IntKind.wrap_u64, IntKind.wrap_u64, IntKind.wrap_u64]; omega
    have HS := Lib.hid hs
    clear hs
    go_enter Tryd.func16, Tryd.ntmps16
    go_wp2
    go_ret
    exact ⟨by rw [HS.out]; rfl, rfl⟩
theorem refSpan_calls (a b : Int) (ha0 : -9223372036854775808 ≤ a) (ha1 : a ≤ 9223372036854775807) (hb0 : -9223372036854775808 ≤ b) (hb1 : b ≤ 9223372036854775807) (w : World) :
    Calls Tryd.prog 17 #[.int .i64 a, .int .i64 b] w fun e w' => e = .returned (.int .u64 (spanV a b)) ∧ w = w' := by
  by_cases h : b < a
  · have hs : spanV a b = 0 := by unfold spanV; rw [if_pos h]
    have HS := Lib.hid hs
    clear hs
    go_enter Tryd.func17, Tryd.ntmps17
    go_wp2
    go_ret
    exact ⟨by rw [HS.out]; rfl, rfl⟩
  · have hs : spanV a b = IntKind.u64.wrap (IntKind.u64.wrap b - IntKind.u64.wrap a) := by
      unfold spanV; rw [if_neg h, IntKind.wrap_u64, IntKind.wrap_u64, IntKind.wrap_u64]; omega
    have HS := Lib.hid hs
    clear hs
    go_enter Tryd.func17, Tryd.ntmps17
    go_wp2
    go_ret
    exact ⟨by rw [HS.out]; rfl, rfl⟩
theorem Times_calls (a b : Int) (ha : W64 a) (hb : W64 b) (w : World) :
    Calls Tryd.prog 14 #[.int .u64 a, .int .u64 b] w fun e w' => e = .returned (.agg #[.int .u64 (MWide.w0 (a * b)), .int .u64 (MWide.w1 (a * b)), .int .u64 (MWide.w2 (a * b))]) ∧ Bel w w' := by
  have HM := Lib.hid (fun w => Mul64_calls a b ha hb w)
  have hm := MWide.w_mul ha hb
  have e0 : MWide.w0 (a * b) = a * b % 18446744073709551616 := rfl
  have e1 : MWide.w1 (a * b) = a * b / 18446744073709551616 := by unfold MWide.w1; omega
  have e2 : MWide.w2 (a * b) = 0 := by unfold MWide.w2; omega
  have HE := Lib.hid (And.intro e0 (And.intro e1 e2))
  clear ha hb hm e0 e1 e2
  go_enter Tryd.func14, Tryd.ntmps14
  go_wp2_with (go_at_call 61; refine (HM.out _).mono ?_; rintro e w' ⟨rfl, rfl⟩)
  obtain ⟨e0, e1, e2⟩ := HE.out
  refine bodyPost_ret (v := .agg #[.int .u64 (MWide.w0 (a * b)), .int .u64 (MWide.w1 (a * b)), .int .u64 (MWide.w2 (a * b))]) ?_ rfl ⟨rfl, (by repeat (first | exact Below.refl _ _ | refine Below.drew ?_ | refine Below.alloc ?_ (by simp <;> omega) _))⟩
  rw [e0, e1, e2]
  simp [results, Tryd.results14, go_sem]

end Go.Proofs.YtakkifedcbhgfaaDoor.K
namespace Go.Proofs.YtakkifedcbhgfaaDoor.K
open Go Go.RowKit Go.Proofs.YtakkifedcbhgfaaDoorW.PrintWords Go.Proofs.YtakkifedcbhgfaaDoorW.PrintLast Go.Proofs.YtakkifedcbhgfaaDoorW.PrintMore
set_option linter.unusedVariables false
set_option linter.unusedSimpArgs false
open Go.Proofs.YtakkifedcbhgfaaDoor.MWide (bt W64 U192 addV subV addOk subOk cry sumO bor difO cmpV width)
theorem width_64 {x : Int} (h : W64 x) : 0 ≤ width x ∧ width x ≤ 64 := by
  have h0 : 0 ≤ width x := by unfold width; split <;> omega
  refine ⟨h0, ?_⟩
  by_cases hx : 0 < x
  · obtain ⟨h1, _, h3⟩ := MWide.width_pos hx
    rcases Int.lt_or_le 64 (width x) with hc | hc
    · have hm : (2 : Int) ^ 64 ≤ 2 ^ (width x - 1).toNat := MWide.p2_mono (by omega)
      have := h.2
      rw [show (2 : Int) ^ 64 = 18446744073709551616 from rfl] at hm
      omega
    · exact hc
  · unfold width; rw [if_pos (by omega)]; omega
theorem isNaN_calls (x : Int) (w : World) : Calls Tryd.prog 95 #[.int .u64 x] w fun e w' => e = .returned (.bool false) ∧ w = w' := by
  go_enter Tryd.func95, Tryd.ntmps95
  go_wp2
  go_ret
  exact ⟨by simp, rfl⟩
theorem Compare_calls (x y : Int) (w : World) : Calls Tryd.prog 69 #[.int .u64 x, .int .u64 y] w fun e w' => e = .returned (.int .i64 (cmpV x y)) ∧ w = w' := by
  have HN := Lib.hid isNaN_calls
  rcases Int.lt_trichotomy x y with h | h | h
  · have b1 : decide (x < y) = true := decide_eq_true h
    have HV : Hid (cmpV x y = -1) := Lib.hid (by unfold cmpV; rw [if_pos h])
    clear h
    go_enter Tryd.func69, Tryd.ntmps69
    go_wp2_with (go_at_call 95; refine (HN.out _ _).mono ?_; rintro e w' ⟨rfl, rfl⟩)
    go_ret
    exact ⟨by rw [HV.out]; rfl, rfl⟩
  · have b1 : decide (x < y) = false := decide_eq_false (by omega)
    have b2 : decide (y < x) = false := decide_eq_false (by omega)
    have HV : Hid (cmpV x y = 0) := Lib.hid (by unfold cmpV; rw [if_neg (by omega), if_pos h])
    clear h
    go_enter Tryd.func69, Tryd.ntmps69
    go_wp2_with (go_at_call 95; refine (HN.out _ _).mono ?_; rintro e w' ⟨rfl, rfl⟩)
    go_ret
    exact ⟨by rw [HV.out]; rfl, rfl⟩
  · have b1 : decide (x < y) = false := decide_eq_false (by omega)
    have b2 : decide (y < x) = true := decide_eq_true h
    have HV : Hid (cmpV x y = 1) := Lib.hid (by unfold cmpV; rw [if_neg (by omega), if_neg (by omega)])
    clear h
    go_enter Tryd.func69, Tryd.ntmps69
    go_wp2_with (go_at_call 95; refine (HN.out _ _).mono ?_; rintro e w' ⟨rfl, rfl⟩)
    go_ret
    exact ⟨by rw [HV.out]; rfl, rfl⟩
/-- The first that is not 0. -/
def or3 (x y z : Int) : Int := if x ≠ 0 then x else if y ≠ 0 then y else z
def or2 (x y : Int) : Int := if x ≠ 0 then x else y
set_option maxHeartbeats 1000000 in
theorem Or3_calls (x y z : Int) (g : Nat) (w : World) (hx : w.cell? ⟨g, 0, none⟩ = some (.int .i64 x)) (hy : w.cell? ⟨g, 1, none⟩ = some (.int .i64 y)) (hz : w.cell? ⟨g, 2, none⟩ = some (.int .i64 z)) :
    Calls Tryd.prog 68 #[.slice (some ⟨g, 0, none⟩) 3 3] w fun e w' => e = .returned (.int .i64 (or3 x y z)) ∧ w = w' := by
  by_cases h0 : x ≠ 0
  · have b1 : (x != 0) = true := by simpa using h0
    have HV : Hid (or3 x y z = x) := Lib.hid (by unfold or3; rw [if_pos h0])
    clear h0
    go_enter Tryd.func68, Tryd.ntmps68
    go_wp2
    refine wp_loop_rounds 4 ?_
    rw [rounds_succ]
    go_wp2
    go_ret
    exact ⟨by rw [HV.out]; rfl, rfl⟩
  · have b1 : (x != 0) = false := by simpa using h0
    by_cases h1 : y ≠ 0
    · have b2 : (y != 0) = true := by simpa using h1
      have HV : Hid (or3 x y z = y) := Lib.hid (by unfold or3; rw [if_neg h0, if_pos h1])
      clear h0 h1
      go_enter Tryd.func68, Tryd.ntmps68
      go_wp2
      refine wp_loop_rounds 4 ?_
      rw [rounds_succ]
      go_wp2
      rw [rounds_succ]
      go_wp2
      go_ret
      exact ⟨by rw [HV.out]; rfl, rfl⟩
    · have b2 : (y != 0) = false := by simpa using h1
      have HV : Hid (or3 x y z = z) := Lib.hid (by unfold or3; rw [if_neg h0, if_neg h1])
      clear h0 h1
      by_cases h2 : z ≠ 0
      · have b3 : (z != 0) = true := by simpa using h2
        clear h2
        go_enter Tryd.func68, Tryd.ntmps68
        go_wp2
        refine wp_loop_rounds 4 ?_
        rw [rounds_succ]
        go_wp2
        rw [rounds_succ]
        go_wp2
        rw [rounds_succ]
        go_wp2
        go_ret
        exact ⟨by rw [HV.out]; rfl, rfl⟩
      · have b3 : (z != 0) = false := by simpa using h2
        have hz0 : z = 0 := by omega
        have HZ := Lib.hid hz0
        clear h2 hz0
        go_enter Tryd.func68, Tryd.ntmps68
        go_wp2
        refine wp_loop_rounds 4 ?_
        rw [rounds_succ]
        go_wp2
        rw [rounds_succ]
        go_wp2
        rw [rounds_succ]
        go_wp2
        rw [rounds_succ]
        go_wp2
        go_ret
        exact ⟨by rw [HV.out, HZ.out]; rfl, rfl⟩
theorem cmp_or {a b : Int} (ha : U192 a) (hb : U192 b) : cmpV a b = or3 (cmpV (MWide.w2 a) (MWide.w2 b)) (cmpV (MWide.w1 a) (MWide.w1 b)) (cmpV (MWide.w0 a) (MWide.w0 b)) := MWide.cmp_words ha hb
set_option maxHeartbeats 1000000 in
set_option maxRecDepth 100000 in
theorem Cmp_calls (a b : Int) (w : World) (ha : U192 a) (hb : U192 b) :
    Calls Tryd.prog 25 #[.agg #[.int .u64 (MWide.w0 a), .int .u64 (MWide.w1 a), .int .u64 (MWide.w2 a)], .agg #[.int .u64 (MWide.w0 b), .int .u64 (MWide.w1 b), .int .u64 (MWide.w2 b)]] w fun e w' => e = .returned (.int .i64 (cmpV a b)) ∧ Bel w w' := by
  have HV := Lib.hid (cmp_or ha hb)
  have HC := Lib.hid Compare_calls
  clear ha hb
  go_enter Tryd.func25, Tryd.ntmps25
  go_wp2
  go_region_held3 (fun w' => w'.cell? ⟨w.heap.size, 0, none⟩ = some (.int .u64 (MWide.w0 a)) ∧ w'.cell? ⟨w.heap.size, 1, none⟩ = some (.int .u64 (MWide.w1 a)) ∧ w'.cell? ⟨w.heap.size, 2, none⟩ = some (.int .u64 (MWide.w2 a)) ∧ w'.cell? ⟨w.heap.size + 1, 0, none⟩ = some (.int .u64 (MWide.w0 b)) ∧ w'.cell? ⟨w.heap.size + 1, 1, none⟩ = some (.int .u64 (MWide.w1 b)) ∧ w'.cell? ⟨w.heap.size + 1, 2, none⟩ = some (.int .u64 (MWide.w2 b))) (simp [go_sem, World.cell?_alloc_past])
    (first | (go_at_call 69; refine (HC.out _ _ _).mono ?_; rintro e w' ⟨rfl, rfl⟩) | (go_at_call 68; refine (Or3_calls (cmpV (MWide.w2 a) (MWide.w2 b)) (cmpV (MWide.w1 a) (MWide.w1 b)) (cmpV (MWide.w0 a) (MWide.w0 b)) _ _ (by simp [go_sem]) (by simp [go_sem]) (by simp [go_sem])).mono ?_; rintro e w' ⟨rfl, rfl⟩))
  go_wp2
  go_ret
  exact ⟨by rw [HV.out]; rfl, by repeat (first | exact Below.refl _ _ | refine Below.drew ?_ | refine Below.alloc ?_ (by simp <;> omega) _)⟩
set_option maxHeartbeats 1000000 in
set_option maxRecDepth 100000 in
theorem Bits_calls (a : Int) (w : World) (ha : U192 a) :
    Calls Tryd.prog 39 #[.agg #[.int .u64 (MWide.w0 a), .int .u64 (MWide.w1 a), .int .u64 (MWide.w2 a)]] w fun e w' => e = .returned (.int .i64 (width a)) ∧ Bel w w' := by
  have HL := Lib.hid Len64_calls
  have h0 := MWide.w0_64 a; have h1 := MWide.w1_64 a; have h2 := MWide.w2_64 a
  have HW := Lib.hid (And.intro h0 (And.intro h1 h2))
  have r0 : 0 ≤ width (MWide.w0 a) ∧ width (MWide.w0 a) ≤ 64 := width_64 h0
  have r1 : 0 ≤ width (MWide.w1 a) ∧ width (MWide.w1 a) ≤ 64 := width_64 h1
  have r2 : 0 ≤ width (MWide.w2 a) ∧ width (MWide.w2 a) ≤ 64 := width_64 h2
  have hv := MWide.width_words ha
  clear ha
  by_cases c2 : 0 < MWide.w2 a
  · rw [if_pos c2] at hv
    have HV := Lib.hid hv
    clear hv h0 h1 h2
    go_enter Tryd.func39, Tryd.ntmps39
    go_wp2
    refine wp_loop_rounds 4 ?_
    rw [rounds_succ]
    go_wp2_with (go_at_call 79; refine (HL.out _ HW.out.2.2 _).mono ?_; rintro e w' ⟨rfl, rfl⟩)
    go_ret
    exact ⟨by rw [HV.out]; rfl, by repeat (first | exact Below.refl _ _ | refine Below.drew ?_ | refine Below.alloc ?_ (by simp <;> omega) _)⟩
  · rw [if_neg c2] at hv
    have e2 : MWide.w2 a = 0 := by unfold W64 at h2; omega
    by_cases c1 : 0 < MWide.w1 a
    · rw [if_pos c1] at hv
      have HV := Lib.hid hv
      clear hv h0 h1 h2 e2
      go_enter Tryd.func39, Tryd.ntmps39
      go_wp2
      refine wp_loop_rounds 4 ?_
      rw [rounds_succ]
      go_wp2
      rw [rounds_succ]
      go_wp2_with (go_at_call 79; refine (HL.out _ HW.out.2.1 _).mono ?_; rintro e w' ⟨rfl, rfl⟩)
      go_ret
      exact ⟨by rw [HV.out]; rfl, by repeat (first | exact Below.refl _ _ | refine Below.drew ?_ | refine Below.alloc ?_ (by simp <;> omega) _)⟩
    · rw [if_neg c1] at hv
      by_cases c0 : 0 < MWide.w0 a
      · have HV := Lib.hid hv
        clear hv h0 h1 h2 e2
        go_enter Tryd.func39, Tryd.ntmps39
        go_wp2
        refine wp_loop_rounds 4 ?_
        rw [rounds_succ]
        go_wp2
        rw [rounds_succ]
        go_wp2
        rw [rounds_succ]
        go_wp2_with (go_at_call 79; refine (HL.out _ HW.out.1 _).mono ?_; rintro e w' ⟨rfl, rfl⟩)
        go_ret
        exact ⟨by rw [HV.out]; rfl, by repeat (first | exact Below.refl _ _ | refine Below.drew ?_ | refine Below.alloc ?_ (by simp <;> omega) _)⟩
      · have e0 : MWide.w0 a = 0 := by unfold W64 at h0; omega
        rw [e0] at hv
        have HV := Lib.hid hv
        clear hv h0 h1 h2 e2 e0
        go_enter Tryd.func39, Tryd.ntmps39
        go_wp2
        refine wp_loop_rounds 4 ?_
        rw [rounds_succ]
        go_wp2
        rw [rounds_succ]
        go_wp2
        rw [rounds_succ]
        go_wp2
        rw [rounds_succ]
        go_wp2
        go_ret
        exact ⟨by rw [HV.out]; rfl, by repeat (first | exact Below.refl _ _ | refine Below.drew ?_ | refine Below.alloc ?_ (by simp <;> omega) _)⟩

end Go.Proofs.YtakkifedcbhgfaaDoor.K
namespace Go.Proofs.YtakkifedcbhgfaaDoor.K
open Go Go.RowKit Go.Proofs.YtakkifedcbhgfaaDoorW.PrintWords Go.Proofs.YtakkifedcbhgfaaDoorW.PrintLast Go.Proofs.YtakkifedcbhgfaaDoorW.PrintMore
set_option linter.unusedVariables false
set_option linter.unusedSimpArgs false
open Go.Proofs.YtakkifedcbhgfaaDoor.MWide (bt W64 U192 addV subV addOk subOk cry sumO bor difO cmpV width)
theorem times_step {a b : Int} (k : Nat) (ha : W64 a) (hb : W64 b) (hk : k < 64) :
    (a * (b % 2 ^ (k + 1)) = if bt b k = 1 then a * (b % 2 ^ k) + a * 2 ^ k else a * (b % 2 ^ k)) ∧ a * 2 ^ (k + 1) = a * 2 ^ k + a * 2 ^ k ∧ (0 ≤ a * (b % 2 ^ k) ∧ a * (b % 2 ^ k) < 340282366920938463463374607431768211456) ∧ (0 ≤ a * 2 ^ k ∧ a * 2 ^ k < 340282366920938463463374607431768211456) := by
  have hp := MWide.p2 k
  have h1 := MWide.mod_succ b k
  have hm : b % 2 ^ k ≤ b := by have h1 := MWide.parts b (2 ^ k); have h2 := Int.mul_nonneg (Int.le_of_lt hp) (Int.ediv_nonneg hb.1 (Int.le_of_lt hp)); omega
  have hm0 := Int.emod_nonneg b (Int.ne_of_gt hp)
  have h64 : (2 : Int) ^ k ≤ 2 ^ 63 := MWide.p2_mono (by omega)
  refine ⟨?_, ?_, ?_, ?_⟩
  · rw [h1]
    have := MWide.bt01 b k
    split
    · rename_i h; rw [h, Int.mul_one, Int.mul_add]; omega
    · rename_i h; rw [show bt b k = 0 by omega]; simp
  · rw [MWide.p2s, Int.mul_left_comm]; omega
  · exact MWide.w_mul ha ⟨hm0, by have := hb.2; omega⟩
  · exact MWide.w_mul ha ⟨Int.le_of_lt hp, by rw [show (2 : Int) ^ 63 = 9223372036854775808 from rfl] at h64; omega⟩
set_option maxHeartbeats 1000000 in
set_option maxRecDepth 100000 in
theorem refTimes_calls (a b : Int) (w : World) (ha : W64 a) (hb : W64 b) :
    Calls Tryd.prog 15 #[.int .u64 a, .int .u64 b] w fun e w' => e = .returned (.agg #[.int .u64 (MWide.w0 (a * b)), .int .u64 (MWide.w1 (a * b)), .int .u64 (MWide.w2 (a * b))]) ∧ Bel w w' := by
  have HA := Lib.hid ha; have HB := Lib.hid hb
  have hb0 := hb.1; have hb1 := hb.2
  have e0 := MWide.w0_64' ha; have e1 := MWide.w1_64' ha; have e2 := MWide.w2_64' ha
  have HE := Lib.hid (And.intro e0 (And.intro e1 e2))
  clear ha hb e0 e1 e2
  go_enter Tryd.func15, Tryd.ntmps15
  go_wp2
  go_loopw [7] (fun i wr => ∃ k : Nat, k ≤ 64 ∧ i = .int .i64 k ∧ Hid (Below w.heap.size w wr) ∧ Blk wr w.heap.size #[.int .u64 0, .int .u64 0, .int .u64 0] 24 ∧ Blk wr (w.heap.size + 1) #[.int .u64 (MWide.w0 (a * (b % 2 ^ k))), .int .u64 (MWide.w1 (a * (b % 2 ^ k))), .int .u64 (MWide.w2 (a * (b % 2 ^ k)))] 24 ∧ Blk wr (w.heap.size + 1 + 1) #[.int .u64 (MWide.w0 (a * 2 ^ k)), .int .u64 (MWide.w1 (a * 2 ^ k)), .int .u64 (MWide.w2 (a * 2 ^ k))] 24) (fun i _ => 64 - (intOf i).toNat)
  case atStart =>
    refine ⟨0, by omega, rfl, Lib.hid ?_, ?_, ?_, ?_⟩
    · exact ((((Below.refl _ w).alloc (Nat.le_refl _) _).alloc (by simp) _).alloc (by simp; omega) _)
    · exact ((Blk.new w _ 24).alloc _).alloc _
    · rw [show a * (b % 2 ^ 0) = 0 by rw [Int.pow_zero, Int.emod_one, Int.mul_zero]]
      exact (Blk.new_at (by simp) _ 24).alloc _
    · obtain ⟨e0, e1, e2⟩ := HE.out
      rw [Int.pow_zero, Int.mul_one, e0, e1, e2]
      exact Blk.new_at (by simp) _ 24
  case round =>
    obtain ⟨k, hk, rfl, HBel, hr, ho, ht⟩ := hrel
    by_cases hlt : k < 64
    · obtain ⟨q1, q2, q3, q4⟩ := times_step k HA.out HB.out hlt
      obtain ⟨o0, o1, o2⟩ := ho.cells3
      obtain ⟨t0, t1, t2⟩ := ht.cells3
      have hx1 : b / 2 ^ k < 18446744073709551616 := Int.lt_of_le_of_lt (Int.ediv_le_self _ hb0) hb1
      have hx0 : 0 ≤ b / 2 ^ k := Int.ediv_nonneg hb0 (Int.le_of_lt (MWide.p2 k))
      have hand := and1_u64 (b / 2 ^ k) hx0 hx1
      have b01 := MWide.bt01 b k
      have HO : Hid (U192 (a * (b % 2 ^ k))) := Lib.hid ⟨q3.1, by omega⟩
      have HT : Hid (U192 (a * 2 ^ k)) := Lib.hid ⟨q4.1, by omega⟩
      have hs1 : addV (a * 2 ^ k) (a * 2 ^ k) = a * 2 ^ (k + 1) := by unfold addV addOk; rw [if_pos (by simp only [decide_eq_true_eq]; omega), q2]
      have HS1 := Lib.hid hs1
      by_cases hbit : bt b k = 1
      · have hb2 : (Go.bits .and .u64 (b / 2 ^ k) 1 == 1) = true := by rw [hand, beq_iff_eq]; exact hbit
        rw [if_pos hbit] at q1
        have hs2 : addV (a * (b % 2 ^ k)) (a * 2 ^ k) = a * (b % 2 ^ (k + 1)) := by unfold addV addOk; rw [if_pos (by simp only [decide_eq_true_eq]; omega), q1]
        have HS2 := Lib.hid hs2
        clear hand hbit q1 q2 q3 q4 hs1 hs2 b01
        go_wp2_with fail
        refine (refAdd_calls _ _ _ HO.out HT.out).mono ?_
        rintro e w1 ⟨rfl, hb1⟩
        rw [HS2.out]
        have ho1 := ho.bel hb1
        have ht1 := ht.bel hb1
        have hr1 := hr.bel hb1
        have HB1 := Lib.hid (bthen HBel.out hb1)
        obtain ⟨c0, c1, c2⟩ := ho1.cells3
        have f0 := ho1.froz 0; have f1 := ho1.froz 1; have f2 := ho1.froz 2
        obtain ⟨d0, d1, d2⟩ := ht1.cells3
        clear hb1
        go_wp2_with fail
        refine (refAdd_calls _ _ _ HT.out HT.out).mono ?_
        rintro e w2 ⟨rfl, hb2⟩
        rw [HS1.out]
        have HB2 := Lib.hid (bthen (below_set3 HB1.out (by omega) _ _ _) hb2)
        have ho2 := Blk.bel (Blk.set3 ho1) hb2
        have ht2 := Blk.bel (Blk.set3_ne ht1 (by omega)) hb2
        have hr2 := Blk.bel (Blk.set3_ne hr1 (by omega)) hb2
        obtain ⟨g0, g1, g2⟩ := ht2.cells3
        have k0 := ht2.froz 0; have k1 := ht2.froz 1; have k2 := ht2.froz 2
        clear hb2
        go_wp2_with fail
        go_roundw
        case rel =>
          refine ⟨k + 1, by omega, by go_num, Lib.hid (below_set3 HB2.out (by omega) _ _ _), hr2.set3_ne (by omega), ho2.set3_ne (by omega), ht2.set3⟩
        case measure => simp [intOf]; omega
      · have hb2 : (Go.bits .and .u64 (b / 2 ^ k) 1 == 1) = false := by rw [hand, beq_eq_false_iff_ne]; exact hbit
        rw [if_neg hbit] at q1
        have HQ := Lib.hid q1
        clear hand hbit q1 q2 q3 q4 hs1 b01
        go_wp2_with fail
        refine (refAdd_calls _ _ _ HT.out HT.out).mono ?_
        rintro e w2 ⟨rfl, hb2⟩
        rw [HS1.out]
        have HB2 := Lib.hid (bthen HBel.out hb2)
        have ho2 := ho.bel hb2
        have ht2 := ht.bel hb2
        have hr2 := hr.bel hb2
        obtain ⟨g0, g1, g2⟩ := ht2.cells3
        have k0 := ht2.froz 0; have k1 := ht2.froz 1; have k2 := ht2.froz 2
        clear hb2
        go_wp2_with fail
        go_roundw
        case rel =>
          refine ⟨k + 1, by omega, by go_num, Lib.hid (below_set3 HB2.out (by omega) _ _ _), hr2.set3_ne (by omega), ?_, ht2.set3⟩
          rw [HQ.out]
          exact ho2.set3_ne (by omega)
        case measure => simp [intOf]; omega
    · have hk64 : k = 64 := by omega
      subst hk64
      have hm : b % 2 ^ 64 = b := Int.emod_eq_of_lt hb0 hb1
      rw [hm] at ho
      obtain ⟨o0, o1, o2⟩ := ho.cells3
      obtain ⟨r0, r1, r2⟩ := hr.cells3
      have f0 := hr.froz 0; have f1 := hr.froz 1; have f2 := hr.froz 2
      clear hm
      go_wp2
      refine bodyPost_ret (v := .agg #[.int .u64 (MWide.w0 (a * b)), .int .u64 (MWide.w1 (a * b)), .int .u64 (MWide.w2 (a * b))]) ?_ rfl ⟨rfl, below_set3 HBel.out (by omega) _ _ _⟩
      obtain ⟨q0, q1, q2⟩ := (hr.set3 (x' := .int .u64 (MWide.w0 (a * b))) (y' := .int .u64 (MWide.w1 (a * b))) (z' := .int .u64 (MWide.w2 (a * b)))).cells3
      simp [results, Tryd.results15, go_sem, q0, q1, q2]

end Go.Proofs.YtakkifedcbhgfaaDoor.K
namespace Go.Proofs.YtakkifedcbhgfaaDoor.K
open Go Go.RowKit Go.Proofs.YtakkifedcbhgfaaDoorW.PrintWords Go.Proofs.YtakkifedcbhgfaaDoorW.PrintLast Go.Proofs.YtakkifedcbhgfaaDoorW.PrintMore
set_option linter.unusedVariables false
set_option linter.unusedSimpArgs false
open Go.Proofs.YtakkifedcbhgfaaDoor.MWide (bt W64 U192 addV subV addOk subOk cry sumO bor difO cmpV width)
def tenO (a : Int) (k : Nat) : Int := a / 2 ^ k / 10 * 2 ^ k
def tenR (a : Int) (k : Nat) : Int := a / 2 ^ k % 10
theorem ten_step {a : Int} (k : Nat) : tenR a k = (if 10 ≤ 2 * tenR a (k + 1) + bt a k then 2 * tenR a (k + 1) + bt a k - 10 else 2 * tenR a (k + 1) + bt a k) ∧
    tenO a k = (if 10 ≤ 2 * tenR a (k + 1) + bt a k then tenO a (k + 1) + 2 ^ k else tenO a (k + 1)) := by
  have h1 := MWide.div_succ a k
  have h2 := MWide.bt01 a k
  unfold tenO tenR
  rw [h1, MWide.p2s]
  generalize a / (2 * 2 ^ k) = A at *
  generalize bt a k = b at *
  have e : (2 * A + b) / 10 = if 10 ≤ 2 * (A % 10) + b then 2 * (A / 10) + 1 else 2 * (A / 10) := by split <;> omega
  refine ⟨by split <;> omega, ?_⟩
  rw [e]
  split
  · rw [Int.add_mul, Int.one_mul, Int.mul_assoc, Int.mul_left_comm]
  · rw [Int.mul_assoc, Int.mul_left_comm]
theorem tenR_b (a : Int) (k : Nat) : 0 ≤ tenR a k ∧ tenR a k ≤ 9 := by unfold tenR; omega
theorem tenO_u {a : Int} (k : Nat) (h : U192 a) : U192 (tenO a k) := by
  have hp := MWide.p2 k
  have h1 := MWide.parts a (2 ^ k)
  have h2 := Int.emod_nonneg a (Int.ne_of_gt hp)
  have h3 : 0 ≤ a / 2 ^ k := Int.ediv_nonneg h.1 (Int.le_of_lt hp)
  have h4 : 0 ≤ a / 2 ^ k / 10 := by omega
  unfold tenO
  refine ⟨Int.mul_nonneg h4 (Int.le_of_lt hp), ?_⟩
  have h5 : a / 2 ^ k / 10 * 2 ^ k ≤ a / 2 ^ k * 2 ^ k := Int.mul_le_mul_of_nonneg_right (by omega) (Int.le_of_lt hp)
  rw [Int.mul_comm (a / 2 ^ k)] at h5
  have := h.2
  omega
theorem tenO_bit (a : Int) (k : Nat) : bt (tenO a (k + 1)) k = 0 := by
  unfold tenO
  rw [Int.mul_comm]
  exact MWide.bt_mul _ _
set_option maxHeartbeats 1000000 in
set_option maxRecDepth 100000 in
theorem tenth_calls (a : Int) (w : World) (ha : U192 a) :
    Calls Tryd.prog 66 #[.agg #[.int .u64 (MWide.w0 a), .int .u64 (MWide.w1 a), .int .u64 (MWide.w2 a)]] w fun e w' => e = .returned (.tuple #[.agg #[.int .u64 (MWide.w0 (a / 10)), .int .u64 (MWide.w1 (a / 10)), .int .u64 (MWide.w2 (a / 10))], .int .i64 (a % 10)]) ∧ Bel w w' := by
  have HA := Lib.hid ha
  clear ha
  go_enter Tryd.func66, Tryd.ntmps66
  go_wp2
  go_loopw [5, 6] (fun r i wr => ∃ k : Nat, k ≤ 192 ∧ i = .int .i64 ((k : Int) - 1) ∧ r = .int .i64 (tenR a k) ∧ Hid (Below w.heap.size w wr) ∧ Blk wr w.heap.size #[.int .u64 (MWide.w0 a), .int .u64 (MWide.w1 a), .int .u64 (MWide.w2 a)] 24 ∧ Blk wr (w.heap.size + 1) #[.int .u64 0, .int .u64 0, .int .u64 0] 24 ∧ Blk wr (w.heap.size + 1 + 1) #[.int .u64 (MWide.w0 (tenO a k)), .int .u64 (MWide.w1 (tenO a k)), .int .u64 (MWide.w2 (tenO a k))] 24) (fun _ i _ => (intOf i + 1).toNat)
  case atStart =>
    have h1 := HA.out
    unfold U192 at h1
    have hz : a / 2 ^ 192 = 0 := by
      rw [show (2 : Int) ^ 192 = 6277101735386680763835789423207666416102355444464034512896 from rfl]
      omega
    refine ⟨192, by omega, rfl, by unfold tenR; rw [hz]; rfl, Lib.hid ?_, ?_, ?_, ?_⟩
    · exact ((((Below.refl _ w).alloc (Nat.le_refl _) _).alloc (by simp) _).alloc (by simp; omega) _)
    · exact ((Blk.new w _ 24).alloc _).alloc _
    · exact (Blk.new_at (by simp) _ 24).alloc _
    · unfold tenO
      rw [hz, show (0 : Int) / 10 * 2 ^ 192 = 0 from Int.zero_mul _]
      exact Blk.new_at (by simp) _ 24
  case round =>
    obtain ⟨k, hk, rfl, rfl, HBel, hba, hbr, hbo⟩ := hrel
    by_cases hlt : 0 < k
    · obtain ⟨j, rfl⟩ : ∃ j, k = j + 1 := ⟨k - 1, by omega⟩
      have hi : (((j + 1 : Nat) : Int) - 1) = (j : Int) := by omega
      rw [hi]
      clear hi
      obtain ⟨a0, a1, a2⟩ := hba.cells3
      have hj : j < 192 := by omega
      obtain ⟨s1, s2⟩ := ten_step (a := a) j
      have b01 := MWide.bt01 a j
      have rb := tenR_b a (j + 1)
      by_cases hc : 10 ≤ 2 * tenR a (j + 1) + bt a j
      · rw [if_pos hc] at s1 s2
        have HS := Lib.hid (And.intro s1 s2)
        have HU := Lib.hid (tenO_u (j + 1) HA.out)
        have HZ := Lib.hid (tenO_bit a j)
        clear s1 s2
        go_wp2_with (first
          | (go_at_call 76; refine (bit_calls a j _ hj).mono ?_; rintro e w1 ⟨rfl, hb⟩; have o1N := hbo.bel hb; have HB1 := Lib.hid hb; obtain ⟨o0, o1, o2⟩ := o1N.cells3; clear hb)
          | (go_at_call 77; refine (put_calls (tenO a (j + 1)) j _ HU.out hj HZ.out).mono ?_; rintro e w2 ⟨rfl, hb⟩; have o2N := o1N.bel hb; have HB2 := Lib.hid hb; obtain ⟨p0, p1, p2⟩ := o2N.cells3; have f0 := o2N.froz 0; have f1 := o2N.froz 1; have f2 := o2N.froz 2; clear hb))
        go_roundw
        case rel =>
          have HBB := bthen (bthen HBel.out HB1.out) HB2.out
          refine ⟨j, by omega, by first | rfl | go_num, by rw [HS.out.1], Lib.hid (below_set3 HBB (by omega) _ _ _), ((hba.bel HB1.out).bel HB2.out).set3_ne (by omega), ((hbr.bel HB1.out).bel HB2.out).set3_ne (by omega), ?_⟩
          rw [HS.out.2]
          exact o2N.set3
        case measure => simp [intOf]; try omega
      · rw [if_neg hc] at s1 s2
        have HS := Lib.hid (And.intro s1 s2)
        clear s1 s2
        go_wp2_with (first
          | (go_at_call 76; refine (bit_calls a j _ hj).mono ?_; rintro e w1 ⟨rfl, hb⟩; have HB1 := Lib.hid hb; clear hb))
        go_roundw
        case rel =>
          refine ⟨j, by omega, by first | rfl | go_num, by rw [HS.out.1], Lib.hid (bthen HBel.out HB1.out), hba.bel HB1.out, hbr.bel HB1.out, ?_⟩
          rw [HS.out.2]
          exact hbo.bel HB1.out
        case measure => simp [intOf]; try omega
    · have hk0 : k = 0 := by omega
      subst hk0
      have e1 : tenO a 0 = a / 10 := by unfold tenO; rw [Int.pow_zero]; omega
      have e2 : tenR a 0 = a % 10 := by unfold tenR; rw [Int.pow_zero]; omega
      rw [e1] at hbo
      rw [e2]
      obtain ⟨o0, o1, o2⟩ := hbo.cells3
      obtain ⟨r0, r1, r2⟩ := hbr.cells3
      have f0 := hbr.froz 0; have f1 := hbr.froz 1; have f2 := hbr.froz 2
      clear e1 e2
      go_wp2
      refine bodyPost_ret (v := .tuple #[.agg #[.int .u64 (MWide.w0 (a / 10)), .int .u64 (MWide.w1 (a / 10)), .int .u64 (MWide.w2 (a / 10))], .int .i64 (a % 10)]) ?_ rfl ⟨rfl, below_set3 HBel.out (by omega) _ _ _⟩
      obtain ⟨q0, q1, q2⟩ := (hbr.set3 (x' := .int .u64 (MWide.w0 (a / 10))) (y' := .int .u64 (MWide.w1 (a / 10))) (z' := .int .u64 (MWide.w2 (a / 10)))).cells3
      simp [results, Tryd.results66, go_sem, q0, q1, q2]

end Go.Proofs.YtakkifedcbhgfaaDoor.K
namespace Go.Proofs.YtakkifedcbhgfaaDoor.K
open Go Go.RowKit Go.Proofs.YtakkifedcbhgfaaDoorW.PrintWords Go.Proofs.YtakkifedcbhgfaaDoorW.PrintLast Go.Proofs.YtakkifedcbhgfaaDoorW.PrintMore
set_option linter.unusedVariables false
set_option linter.unusedSimpArgs false
open Go.Proofs.YtakkifedcbhgfaaDoor.MWide (bt W64 U192 addV subV addOk subOk cry sumO bor difO cmpV width)
theorem lead_calls (w : World) : Calls Tryd.prog 104 #[.int .u64 10000000000000000000] w fun e w' => e = .returned (.int .i64 0) ∧ w = w' := by
  have hw : width 10000000000000000000 = 64 := MWide.width_eq (k := 63) (by decide) (by decide)
  have HL : Hid (∀ w, Calls Tryd.prog 79 #[.int .u64 10000000000000000000] w fun e w' => e = .returned (.int .i64 64) ∧ w = w') := Lib.hid (fun w => by
    have := Len64_calls 10000000000000000000 ⟨by decide, by decide⟩ w
    rw [hw] at this
    exact this)
  clear hw
  go_enter Tryd.func104, Tryd.ntmps104
  go_wp2_with (go_at_call 79; refine (HL.out _).mono ?_; rintro e w' ⟨rfl, rfl⟩)
  go_ret
  exact ⟨rfl, rfl⟩
set_option maxHeartbeats 1000000 in
set_option maxRecDepth 100000 in
theorem Div64_calls (hi lo : Int) (w : World) (h0 : 0 ≤ hi) (h1 : hi < 10000000000000000000) (hl : W64 lo) :
    Calls Tryd.prog 90 #[.int .u64 hi, .int .u64 lo, .int .u64 10000000000000000000] w fun e w' => e = .returned (.tuple #[.int .u64 ((hi * 18446744073709551616 + lo) / 10000000000000000000), .int .u64 ((hi * 18446744073709551616 + lo) % 10000000000000000000)]) ∧ Bel w w' := by
  have HL := Lib.hid lead_calls
  have hl0 := hl.1; have hl1 := hl.2
  clear hl
  by_cases hz : hi = 0
  · subst hz
    rw [Int.zero_mul, Int.zero_add]
    clear h0 h1
    go_enter Tryd.func90, Tryd.ntmps90
    go_wp2
    go_region
    go_wp2
    go_ret2
    exact ⟨rfl, Bel.drew w⟩
  · have hle : decide ((10000000000000000000 : Int) ≤ hi) = false := decide_eq_false (by omega)
    have hzz : (hi == 0) = false := by rw [beq_eq_false_iff_ne]; exact hz
    have e1 : Go.bits .and .u64 10000000000000000000 4294967295 = 2313682944 := bits_mask .u64 64 (by decide) MOct.wraps_u64 32 (by decide) 10000000000000000000 (by decide) (by decide)
    have e2 : lo / 18446744073709551616 = 0 := Int.ediv_eq_zero_of_lt hl0 hl1
    have e3 : Go.bits .or .u64 hi 0 = hi := by
      have := MOct.or_u64 hi 0 0 (by decide) h0 (by omega) (by omega) (by decide)
      simpa using this
    have e4 : Go.bits .and .u64 lo 4294967295 = lo % 4294967296 := bits_mask .u64 64 (by decide) MOct.wraps_u64 32 (by decide) lo hl0 hl1
    have hg := MDiv.guess_0 h0 h1 (u := lo / 4294967296) (by omega) (by omega)
    obtain ⟨b1, b2, b3, b4, b5, b6⟩ : 0 ≤ hi / 2328306436 ∧ hi / 2328306436 ≤ 4294967296 ∧ 0 ≤ hi - hi / 2328306436 * 2328306436 ∧ hi - hi / 2328306436 * 2328306436 < 4294967296 ∧ 0 ≤ lo / 4294967296 ∧ lo / 4294967296 < 4294967296 := by omega
    have HG := Lib.hid hg
    clear hg
    go_enter Tryd.func90, Tryd.ntmps90
    go_upto_block 0 with (go_at_call 104; refine (HL.out _).mono ?_; rintro e w' ⟨rfl, rfl⟩)
    obtain ⟨n, hn⟩ : ∃ n, n = hi * 4294967296 + lo / 4294967296 := ⟨_, rfl⟩
    rw [← hn] at HG
    obtain ⟨m, hm⟩ : ∃ m, m = n % 10000000000000000000 * 4294967296 + lo % 4294967296 := ⟨_, rfl⟩
    obtain ⟨x1, x2, x3, x4, x5, x6⟩ := MDiv.both h0 h1 hl0 hl1 hn hm
    have HX := Lib.hid (And.intro x1 x2)
    have HN := Lib.hid (And.intro x3 x4)
    have HN2 := Lib.hid (And.intro x5 x6)
    have HM : Hid (n % 4294967296 = lo / 4294967296) := Lib.hid (by rw [hn]; omega)
    have HM2 : Hid (m % 4294967296 = lo % 4294967296) := Lib.hid (by rw [hm]; omega)
    have HNd : Hid (n / 4294967296 = hi) := Lib.hid (by rw [hn]; omega)
    have Hm := Lib.hid hm
    clear hn hm x1 x2 x3 x4 x5 x6
    go_cut [15] (fun qv w' => qv = .int .u64 (n / 10000000000000000000) ∧ w = w')
    case first =>
      go_wp2_with fail
      go_loop [15, 16] (fun qv rv => ∃ q r : Int, qv = .int .u64 q ∧ rv = .int .u64 r ∧ Hid (MDiv.Guess n q r) ∧ 0 ≤ q ∧ q ≤ 4294967296 ∧ 0 ≤ r ∧ r < 4294967296) (fun qv _ => (intOf qv).toNat)
      case atStart => exact ⟨_, _, rfl, rfl, HG, b1, b2, b3, b4⟩
      case round =>
        obtain ⟨q, r, rfl, rfl, HGu, q0, q1, r0, r1⟩ := hrel
        by_cases hA : 4294967296 ≤ q
        · have hq1 : 1 ≤ q := by omega
          by_cases hR : 4294967296 ≤ r + 2328306436
          · have HE := Lib.hid (MDiv.guess_break HGu.out HN.out.2 (.inl hA) hR)
            go_wp2
            go_meet
            exact ⟨by rw [HE.out], rfl⟩
          · have HE := Lib.hid (MDiv.guess_next HGu.out HN.out.2 (.inl hA) (by omega))
            go_wp2
            go_round
            case rel => exact ⟨_, _, rfl, rfl, HE, by omega, by omega, by omega, by omega⟩
            case measure => simp [intOf]; omega
        · by_cases hB : 4294967296 * r + lo / 4294967296 < q * 2313682944
          · have hq1 : 1 ≤ q := by omega
            have hB2 : 4294967296 * r + n % 4294967296 < q * 2313682944 := by rw [HM.out]; exact hB
            by_cases hR : 4294967296 ≤ r + 2328306436
            · have HE := Lib.hid (MDiv.guess_break HGu.out HN.out.2 (.inr hB2) hR)
              clear hB2
              go_wp2
              go_meet
              exact ⟨by rw [HE.out], rfl⟩
            · have HE := Lib.hid (MDiv.guess_next HGu.out HN.out.2 (.inr hB2) (by omega))
              clear hB2
              go_wp2
              go_round
              case rel => exact ⟨_, _, rfl, rfl, HE, by omega, by omega, by omega, by omega⟩
              case measure => simp [intOf]; omega
          · have HE := Lib.hid (MDiv.guess_done HGu.out (by omega) (by rw [HM.out]; omega))
            go_wp2
            go_meet
            exact ⟨by rw [HE.out], rfl⟩
    case rest =>
      obtain ⟨rfl, rfl⟩ := hcut
      clear HG b1 b2 b3 b4
      have hs0 : 0 ≤ n % 10000000000000000000 := by omega
      have hs1 : n % 10000000000000000000 < 10000000000000000000 := by omega
      have hU : IntKind.u64.wrap (IntKind.u64.wrap (IntKind.u64.wrap (hi * 4294967296) + lo / 4294967296) - IntKind.u64.wrap (n / 10000000000000000000 * 10000000000000000000)) = n % 10000000000000000000 := by
        have := MDiv.half_rest n HN.out.1 HN.out.2
        rw [HNd.out, HM.out] at this
        rw [IntKind.wrap_u64, IntKind.wrap_u64, IntKind.wrap_u64, IntKind.wrap_u64]
        exact this
      have hg := MDiv.guess_0 hs0 hs1 (u := lo % 4294967296) (by omega) (by omega)
      obtain ⟨q1, hq1⟩ : ∃ q1, n / 10000000000000000000 = q1 := ⟨_, rfl⟩
      obtain ⟨s, hs⟩ : ∃ s, n % 10000000000000000000 = s := ⟨_, rfl⟩
      rw [hq1, hs] at hU
      rw [hs] at hs0 hs1 hg
      have Hm2 : Hid (m = s * 4294967296 + lo % 4294967296) := Lib.hid (by rw [Hm.out, hs])
      rw [← Hm2.out] at hg
      rw [hq1]
      have Hq1 := Lib.hid hq1
      have Hs := Lib.hid hs
      obtain ⟨b1, b2, b3, b4⟩ : 0 ≤ s / 2328306436 ∧ s / 2328306436 ≤ 4294967296 ∧ 0 ≤ s - s / 2328306436 * 2328306436 ∧ s - s / 2328306436 * 2328306436 < 4294967296 := by omega
      have HG := Lib.hid hg
      clear hg hq1 hs
      go_upto_block 2 with (fail)
      go_cut [18] (fun qv w' => qv = .int .u64 (m / 10000000000000000000) ∧ w = w')
      case first =>
        go_wp2_with fail
        go_loop [18, 16] (fun qv rv => ∃ q r : Int, qv = .int .u64 q ∧ rv = .int .u64 r ∧ Hid (MDiv.Guess m q r) ∧ 0 ≤ q ∧ q ≤ 4294967296 ∧ 0 ≤ r ∧ r < 4294967296) (fun qv _ => (intOf qv).toNat)
        case atStart => exact ⟨_, _, rfl, rfl, HG, b1, b2, b3, b4⟩
        case round =>
          obtain ⟨q, r, rfl, rfl, HGu, q0, q1, r0, r1⟩ := hrel
          by_cases hA : 4294967296 ≤ q
          · have hq1 : 1 ≤ q := by omega
            by_cases hR : 4294967296 ≤ r + 2328306436
            · have HE := Lib.hid (MDiv.guess_break HGu.out HN2.out.2 (.inl hA) hR)
              go_wp2
              go_meet
              exact ⟨by rw [HE.out], rfl⟩
            · have HE := Lib.hid (MDiv.guess_next HGu.out HN2.out.2 (.inl hA) (by omega))
              go_wp2
              go_round
              case rel => exact ⟨_, _, rfl, rfl, HE, by omega, by omega, by omega, by omega⟩
              case measure => simp [intOf]; omega
          · by_cases hB : 4294967296 * r + lo % 4294967296 < q * 2313682944
            · have hq1 : 1 ≤ q := by omega
              have hB2 : 4294967296 * r + m % 4294967296 < q * 2313682944 := by rw [HM2.out]; exact hB
              by_cases hR : 4294967296 ≤ r + 2328306436
              · have HE := Lib.hid (MDiv.guess_break HGu.out HN2.out.2 (.inr hB2) hR)
                clear hB2
                go_wp2
                go_meet
                exact ⟨by rw [HE.out], rfl⟩
              · have HE := Lib.hid (MDiv.guess_next HGu.out HN2.out.2 (.inr hB2) (by omega))
                clear hB2
                go_wp2
                go_round
                case rel => exact ⟨_, _, rfl, rfl, HE, by omega, by omega, by omega, by omega⟩
                case measure => simp [intOf]; omega
            · have HE := Lib.hid (MDiv.guess_done HGu.out (by omega) (by rw [HM2.out]; omega))
              go_wp2
              go_meet
              exact ⟨by rw [HE.out], rfl⟩
      case rest =>
        obtain ⟨rfl, rfl⟩ := hcut
        clear HG b1 b2 b3 b4
        go_wp2
        go_ret2
        refine ⟨?_, Bel.refl _⟩
        obtain ⟨x1, x2⟩ := HX.out
        have hA : IntKind.u64.wrap (IntKind.u64.wrap (q1 * 4294967296) + m / 10000000000000000000) = (hi * 18446744073709551616 + lo) / 10000000000000000000 := by
          rw [Hq1.out] at x1
          rw [IntKind.wrap_u64, IntKind.wrap_u64, ← x1]
          have h1 := HN.out.1; have h2 := HN.out.2; have h3 := HN2.out.1; have h4 := HN2.out.2; have h5 := Hq1.out
          omega
        have hB : IntKind.u64.wrap (IntKind.u64.wrap (IntKind.u64.wrap (s * 4294967296) + lo % 4294967296) - IntKind.u64.wrap (m / 10000000000000000000 * 10000000000000000000)) = (hi * 18446744073709551616 + lo) % 10000000000000000000 := by
          have := MDiv.half_rest m HN2.out.1 HN2.out.2
          have e5 : m / 4294967296 = s := by rw [Hm2.out]; omega
          rw [e5, HM2.out] at this
          rw [IntKind.wrap_u64, IntKind.wrap_u64, IntKind.wrap_u64, IntKind.wrap_u64, ← x2]
          exact this
        rw [← hA, ← hB]
        rfl

end Go.Proofs.YtakkifedcbhgfaaDoor.K
namespace Go.Proofs.YtakkifedcbhgfaaDoor.K
open Go Go.RowKit Go.Proofs.YtakkifedcbhgfaaDoorW.PrintWords Go.Proofs.YtakkifedcbhgfaaDoorW.PrintLast Go.Proofs.YtakkifedcbhgfaaDoorW.PrintMore
set_option linter.unusedVariables false
set_option linter.unusedSimpArgs false
open Go.Proofs.YtakkifedcbhgfaaDoor.MWide (bt W64 U192 addV subV addOk subOk cry sumO bor difO cmpV width)
set_option maxHeartbeats 1000000 in
set_option maxRecDepth 100000 in
theorem parted_calls (a : Int) (w : World) (ha : U192 a) :
    Calls Tryd.prog 63 #[.agg #[.int .u64 (MWide.w0 a), .int .u64 (MWide.w1 a), .int .u64 (MWide.w2 a)], .int .u64 10000000000000000000] w fun e w' => e = .returned (.tuple #[.agg #[.int .u64 (MWide.w0 (a / 10000000000000000000)), .int .u64 (MWide.w1 (a / 10000000000000000000)), .int .u64 (MWide.w2 (a / 10000000000000000000))], .int .u64 (a % 10000000000000000000)]) ∧ Bel w w' := by
  obtain ⟨q2, hq2⟩ : ∃ q, q = MWide.w2 a / 10000000000000000000 := ⟨_, rfl⟩
  obtain ⟨r2, hr2⟩ : ∃ r, r = MWide.w2 a % 10000000000000000000 := ⟨_, rfl⟩
  obtain ⟨q1, hq1⟩ : ∃ q, q = (r2 * 18446744073709551616 + MWide.w1 a) / 10000000000000000000 := ⟨_, rfl⟩
  obtain ⟨r1, hr1⟩ : ∃ r, r = (r2 * 18446744073709551616 + MWide.w1 a) % 10000000000000000000 := ⟨_, rfl⟩
  obtain ⟨q0, hq0⟩ : ∃ q, q = (r1 * 18446744073709551616 + MWide.w0 a) / 10000000000000000000 := ⟨_, rfl⟩
  obtain ⟨r0, hr0⟩ : ∃ r, r = (r1 * 18446744073709551616 + MWide.w0 a) % 10000000000000000000 := ⟨_, rfl⟩
  have HP := Lib.hid (MDiv.parted_words ha r2 r1 q2 q1 q0 hq2 hr2 hq1 hr1 hq0)
  have D2 : Hid (∀ w, Calls Tryd.prog 90 #[.int .u64 0, .int .u64 (MWide.w2 a), .int .u64 10000000000000000000] w fun e w' => e = .returned (.tuple #[.int .u64 q2, .int .u64 r2]) ∧ Bel w w') := Lib.hid (fun w => by
    have := Div64_calls 0 (MWide.w2 a) w (by decide) (by decide) (MWide.w2_64 a)
    rw [Int.zero_mul, Int.zero_add, ← hq2, ← hr2] at this
    exact this)
  have D1 : Hid (∀ w, Calls Tryd.prog 90 #[.int .u64 r2, .int .u64 (MWide.w1 a), .int .u64 10000000000000000000] w fun e w' => e = .returned (.tuple #[.int .u64 q1, .int .u64 r1]) ∧ Bel w w') := Lib.hid (fun w => by
    have := Div64_calls r2 (MWide.w1 a) w (by omega) (by omega) (MWide.w1_64 a)
    rw [← hq1, ← hr1] at this
    exact this)
  have D0 : Hid (∀ w, Calls Tryd.prog 90 #[.int .u64 r1, .int .u64 (MWide.w0 a), .int .u64 10000000000000000000] w fun e w' => e = .returned (.tuple #[.int .u64 q0, .int .u64 r0]) ∧ Bel w w') := Lib.hid (fun w => by
    have := Div64_calls r1 (MWide.w0 a) w (by omega) (by omega) (MWide.w0_64 a)
    rw [← hq0, ← hr0] at this
    exact this)
  rw [← hr0] at HP
  clear ha hq2 hr2 hq1 hr1 hq0 hr0
  go_enter Tryd.func63, Tryd.ntmps63
  go_wp2
  refine wp_loop_rounds 4 ?_
  rw [rounds_succ]
  go_wp2_with fail
  refine (D2.out _).mono ?_
  rintro e w1 ⟨rfl, hb1⟩
  have A1 := Blk.bel ((Blk.new w #[.int .u64 (MWide.w0 a), .int .u64 (MWide.w1 a), .int .u64 (MWide.w2 a)] 26).alloc _ |>.alloc _) hb1
  have R1 := Blk.bel ((Blk.new_at (g := w.heap.size + 1) (by simp) #[.int .u64 0, .int .u64 0, .int .u64 0] 26).alloc _) hb1
  have O1 := Blk.bel (Blk.new_at (g := w.heap.size + 1 + 1) (by simp) #[.int .u64 0, .int .u64 0, .int .u64 0] 26) hb1
  have B1 : Hid (Below w.heap.size w w1) := Lib.hid (bthen (by repeat (first | exact Below.refl _ _ | refine Below.drew ?_ | refine Below.alloc ?_ (by simp <;> omega) _)) hb1)
  clear hb1
  obtain ⟨a0, a1, a2⟩ := A1.cells3
  obtain ⟨o0, o1, o2⟩ := O1.cells3
  have f0 := O1.froz 0; have f1 := O1.froz 1; have f2 := O1.froz 2
  go_wp2_with fail
  rw [rounds_succ]
  go_wp2_with fail
  refine (D1.out _).mono ?_
  rintro e w2 ⟨rfl, hb2⟩
  have A2 := (A1.set_ne (by omega) _).bel hb2
  have R2 := (R1.set_ne (by omega) _).bel hb2
  have O2 := (O1.set 2 (.int .u64 q2)).bel hb2
  have B2 : Hid (Below w.heap.size w w2) := Lib.hid (bthen (below_set B1.out (by omega) _) hb2)
  clear hb2 a0 a1 a2 o0 o1 o2 f0 f1 f2
  simp only [List.setIfInBounds_toArray, List.set_cons_zero, List.set_cons_succ] at O2
  obtain ⟨a0, a1, a2⟩ := A2.cells3
  obtain ⟨o0, o1, o2⟩ := O2.cells3
  have f0 := O2.froz 0; have f1 := O2.froz 1; have f2 := O2.froz 2
  go_wp2_with fail
  rw [rounds_succ]
  go_wp2_with fail
  refine (D0.out _).mono ?_
  rintro e w3 ⟨rfl, hb3⟩
  have R3 := (R2.set_ne (by omega) _).bel hb3
  have O3 := (O2.set 1 (.int .u64 q1)).bel hb3
  have B3 : Hid (Below w.heap.size w w3) := Lib.hid (bthen (below_set B2.out (by omega) _) hb3)
  clear hb3 a0 a1 a2 o0 o1 o2 f0 f1 f2
  simp only [List.setIfInBounds_toArray, List.set_cons_zero, List.set_cons_succ] at O3
  obtain ⟨r0', r1', r2'⟩ := R3.cells3
  obtain ⟨o0, o1, o2⟩ := O3.cells3
  have f0 := O3.froz 0; have f1 := O3.froz 1; have f2 := O3.froz 2
  have g0 := R3.froz 0; have g1 := R3.froz 1; have g2 := R3.froz 2
  go_wp2_with fail
  rw [rounds_succ]
  go_wp2_with fail
  obtain ⟨p0, p1, p2, p3⟩ := HP.out
  refine bodyPost_ret (v := .tuple #[.agg #[.int .u64 (MWide.w0 (a / 10000000000000000000)), .int .u64 (MWide.w1 (a / 10000000000000000000)), .int .u64 (MWide.w2 (a / 10000000000000000000))], .int .u64 (a % 10000000000000000000)]) ?_ rfl ⟨rfl, below_set3 (below_set B3.out (by omega) _) (by omega) _ _ _⟩
  obtain ⟨k0, k1, k2⟩ := ((R3.set_ne (j := w.heap.size + 1 + 1) (i := 0) (by omega) (.int .u64 q0)).set3 (x' := .int .u64 q0) (y' := .int .u64 q1) (z' := .int .u64 q2)).cells3
  rw [p0, p1, p2, ← p3]
  simp [results, Tryd.results63, go_sem, k0, k1, k2]
theorem CB.of_blk {W : World} {g t : Nat} {cs : Array Value} (h : Blk W g cs t) (l : List Int) (hl : cs = (l.map (Value.int .u8)).toArray) (hle : l.length ≤ 9223372036854775807) : CB W (some ⟨g, 0, none⟩) l := by
  subst hl
  refine ⟨rfl, hle, fun h0 => ⟨⟨g, 0, none⟩, rfl, fun j p hj => ⟨[.int .u8 p], rfl, rfl, fun i u hu => ?_⟩⟩⟩
  have hi : i = 0 := by
    rcases i with _ | i
    · rfl
    · simp at hu
  subst hi
  simp at hu
  subst hu
  have : (l.map (Value.int .u8)).toArray[j]? = some (.int .u8 p) := by simp [hj]
  have hc := h.cell j this
  have hz : (⟨g, 0, none⟩ : Addr).add (j * 1 + 0) = ⟨g, j, none⟩ := by
    by_cases hj0 : j = 0 <;> simp [Addr.add, hj0]
  exact (congrArg W.cell? hz).trans hc
def darr (n : Int) (k : Nat) : Array Value := ((List.range 19).map (fun j => Value.int .u8 (if 18 - j < k then 48 + n / 10 ^ (18 - j) % 10 else 0))).toArray
theorem darr_at (n : Int) (k : Nat) (hk : k < 19) : (darr n k)[18 - k]? = some (.int .u8 0) := by
  simp only [darr, List.getElem?_toArray, List.getElem?_map, List.getElem?_range (show 18 - k < 19 by omega), Option.map_some]
  rw [if_neg (by omega)]
theorem darr_set (n : Int) (k : Nat) (hk : k < 19) : (darr n k).setIfInBounds (18 - k) (.int .u8 (48 + n / 10 ^ k % 10)) = darr n (k + 1) := by
  apply Array.ext
  · simp [darr]
  · intro i h1 h2
    have hi : i < 19 := by simpa [darr] using h2
    rw [Array.getElem_setIfInBounds (by simpa [darr] using hi)]
    by_cases he : 18 - k = i
    · subst he
      rw [if_pos rfl]
      simp only [darr, List.getElem_toArray, List.getElem_map, List.getElem_range]
      rw [show 18 - (18 - k) = k by omega, if_pos (by omega)]
    · rw [if_neg he]
      simp only [darr, List.getElem_toArray, List.getElem_map, List.getElem_range]
      by_cases hlt : 18 - i < k
      · rw [if_pos hlt, if_pos (by omega)]
      · rw [if_neg hlt, if_neg (by omega)]
theorem padD_range (n : Int) (k : Nat) : MText.padD n k = (List.range k).map (fun j => 48 + n / 10 ^ (k - 1 - j) % 10) := by
  induction k generalizing n with
  | zero => rfl
  | succ k ih =>
    rw [MText.padD, ih, List.range_succ, List.map_append]
    congr 1
    · apply List.map_congr_left
      intro j hj
      have hj := List.mem_range.1 hj
      rw [Int.ediv_ediv_of_nonneg (by decide), show (10 : Int) * 10 ^ (k - 1 - j) = 10 ^ (k + 1 - 1 - j) by rw [show k + 1 - 1 - j = (k - 1 - j) + 1 by omega, Int.pow_succ, Int.mul_comm]]
    · simp
theorem darr_pad (n : Int) : darr n 19 = ((MText.padD n 19).map (Value.int .u8)).toArray := by
  rw [padD_range]
  unfold darr
  rw [List.map_map]
  refine congrArg List.toArray (List.map_congr_left ?_)
  intro j hj
  have hj := List.mem_range.1 hj
  simp only [Function.comp]
  rw [if_pos (by omega)]
set_option maxHeartbeats 1000000 in
set_option maxRecDepth 100000 in
theorem digits_calls (n : Int) (w : World) (h0 : 0 ≤ n) (h1 : n < 18446744073709551616) :
    Calls Tryd.prog 64 #[.int .u64 n] w fun e w' => e = .returned (.string (strOfNums (MText.padD n 19))) ∧ Bel w w' := by
  go_enter Tryd.func64, Tryd.ntmps64
  go_wp2
  go_loopw [0, 5] (fun x i wr => ∃ k : Nat, k ≤ 19 ∧ i = .int .i64 k ∧ x = .int .u64 (n / 10 ^ k) ∧ Hid (Below w.heap.size w wr) ∧ Blk wr w.heap.size (darr n k) 115) (fun _ i _ => 19 - (intOf i).toNat)
  case atStart =>
    exact ⟨0, by omega, rfl, by rw [Int.pow_zero, Int.ediv_one], Lib.hid ((Below.refl _ w).alloc (Nat.le_refl _) _), Blk.new w _ 115⟩
  case round =>
    obtain ⟨k, hk, rfl, rfl, HBel, hb⟩ := hrel
    by_cases hlt : k < 19
    · have hq0 : 0 ≤ n / 10 ^ k := Int.ediv_nonneg h0 (Int.le_of_lt (MText.p10 k))
      have hq1 : n / 10 ^ k < 18446744073709551616 := Int.lt_of_le_of_lt (Int.ediv_le_self _ h0) h1
      have hc := hb.cell (18 - k) (u := .int .u8 0) (darr_at n k hlt)
      have f0 := hb.froz (18 - k)
      go_wp2
      go_roundw
      case rel =>
        refine ⟨k + 1, by omega, by go_num, by rw [Int.pow_succ, ← Int.ediv_ediv_of_nonneg (Int.le_of_lt (MText.p10 k))], Lib.hid (below_set HBel.out (Nat.le_refl _) _), ?_⟩
        have := hb.set (18 - k) (.int .u8 (48 + n / 10 ^ k % 10))
        rw [darr_set n k hlt] at this
        exact this
      case measure => simp [intOf]; omega
    · have hk19 : k = 19 := by omega
      subst hk19
      have hC := CB.of_blk hb (MText.padD n 19) (darr_pad n) (by rw [MText.padD_length]; decide)
      have hconv := hC.str (c := 19)
      rw [MText.padD_length] at hconv
      clear hC
      go_wp2
      go_ret
      exact ⟨rfl, HBel.out⟩

end Go.Proofs.YtakkifedcbhgfaaDoor.K
