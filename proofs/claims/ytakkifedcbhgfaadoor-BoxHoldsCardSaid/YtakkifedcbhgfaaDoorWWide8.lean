/- The reference's product. -/
import Derived.Test.YtakkifedcbhgfaaDoorBase
import Derived.Handy
import Derived.Test.YtakkifedcbhgfaaDoorWWide7
namespace Go.Proofs.YtakkifedcbhgfaaDoor.K
open Go Go.RowKit Go.Proofs.YtakkifedcbhgfaaDoorW.PrintWords Go.Proofs.YtakkifedcbhgfaaDoorW.PrintLast Go.Proofs.YtakkifedcbhgfaaDoorW.PrintMore
set_option linter.unusedVariables false
set_option linter.unusedSimpArgs false
open Go.Proofs.YtakkifedcbhgfaaDoor.MWide (bt W64 U192 addV subV addOk subOk cry sumO bor difO cmpV width)
theorem times_step {a b : Int} (k : Nat) (ha : W64 a) (hb : W64 b) (hk : k < 64) :
    (a * (b % 2 ^ (k + 1)) = if bt b k = 1 then a * (b % 2 ^ k) + a * 2 ^ k else a * (b % 2 ^ k)) ∧ a * 2 ^ (k + 1) = a * 2 ^ k + a * 2 ^ k ∧ (0 ≤ a * (b % 2 ^ k) ∧ a * (b % 2 ^ k) < 340282366920938463463374607431768211456) ∧ (0 ≤ a * 2 ^ k ∧ a * 2 ^ k < 340282366920938463463374607431768211456) := by
  have hp := MWide.p2 k
  have h1 := MWide.mod_succ b k
  have hm : b % 2 ^ k ≤ b := by have h1 := MWide.parts b (2 ^ k); have h2 := Int.mul_nonneg (Int.le_of_lt hp) (Int.ediv_nonneg hb.1 (Int.le_of_lt hp)); omega
  have hm0 := Int.emod_nonneg b (Int.ne_of_gt hp)
  have h64 : (2 : Int) ^ k ≤ 2 ^ 63 := MWide.p2_mono (by omega)
  refine ⟨?_, ?_, ?_, ?_⟩
  · rw [h1]
    have := MWide.bt01 b k
    split
    · rename_i h; rw [h, Int.mul_one, Int.mul_add]; omega
    · rename_i h; rw [show bt b k = 0 by omega]; simp
  · rw [MWide.p2s, Int.mul_left_comm]; omega
  · exact MWide.w_mul ha ⟨hm0, by have := hb.2; omega⟩
  · exact MWide.w_mul ha ⟨Int.le_of_lt hp, by rw [show (2 : Int) ^ 63 = 9223372036854775808 from rfl] at h64; omega⟩
set_option maxHeartbeats 1000000 in
set_option maxRecDepth 100000 in
theorem refTimes_calls (a b : Int) (w : World) (ha : W64 a) (hb : W64 b) :
    Calls Tryd.prog 15 #[.int .u64 a, .int .u64 b] w fun e w' => e = .returned (.agg #[.int .u64 (MWide.w0 (a * b)), .int .u64 (MWide.w1 (a * b)), .int .u64 (MWide.w2 (a * b))]) ∧ Bel w w' := by
  have HA := Lib.hid ha; have HB := Lib.hid hb
  have hb0 := hb.1; have hb1 := hb.2
  have e0 := MWide.w0_64' ha; have e1 := MWide.w1_64' ha; have e2 := MWide.w2_64' ha
  have HE := Lib.hid (And.intro e0 (And.intro e1 e2))
  clear ha hb e0 e1 e2
  go_enter Tryd.func15, Tryd.ntmps15
  go_wp2
  go_loopw [7] (fun i wr => ∃ k : Nat, k ≤ 64 ∧ i = .int .i64 k ∧ Hid (Below w.heap.size w wr) ∧ Blk wr w.heap.size #[.int .u64 0, .int .u64 0, .int .u64 0] 24 ∧ Blk wr (w.heap.size + 1) #[.int .u64 (MWide.w0 (a * (b % 2 ^ k))), .int .u64 (MWide.w1 (a * (b % 2 ^ k))), .int .u64 (MWide.w2 (a * (b % 2 ^ k)))] 24 ∧ Blk wr (w.heap.size + 1 + 1) #[.int .u64 (MWide.w0 (a * 2 ^ k)), .int .u64 (MWide.w1 (a * 2 ^ k)), .int .u64 (MWide.w2 (a * 2 ^ k))] 24) (fun i _ => 64 - (intOf i).toNat)
  case atStart =>
    refine ⟨0, by omega, rfl, Lib.hid ?_, ?_, ?_, ?_⟩
    · exact ((((Below.refl _ w).alloc (Nat.le_refl _) _).alloc (by simp) _).alloc (by simp; omega) _)
    · exact ((Blk.new w _ 24).alloc _).alloc _
    · rw [show a * (b % 2 ^ 0) = 0 by rw [Int.pow_zero, Int.emod_one, Int.mul_zero]]
      exact (Blk.new_at (by simp) _ 24).alloc _
    · obtain ⟨e0, e1, e2⟩ := HE.out
      rw [Int.pow_zero, Int.mul_one, e0, e1, e2]
      exact Blk.new_at (by simp) _ 24
  case round =>
    obtain ⟨k, hk, rfl, HBel, hr, ho, ht⟩ := hrel
    by_cases hlt : k < 64
    · obtain ⟨q1, q2, q3, q4⟩ := times_step k HA.out HB.out hlt
      obtain ⟨o0, o1, o2⟩ := ho.cells3
      obtain ⟨t0, t1, t2⟩ := ht.cells3
      have hx1 : b / 2 ^ k < 18446744073709551616 := Int.lt_of_le_of_lt (Int.ediv_le_self _ hb0) hb1
      have hx0 : 0 ≤ b / 2 ^ k := Int.ediv_nonneg hb0 (Int.le_of_lt (MWide.p2 k))
      have hand := and1_u64 (b / 2 ^ k) hx0 hx1
      have b01 := MWide.bt01 b k
      have HO : Hid (U192 (a * (b % 2 ^ k))) := Lib.hid ⟨q3.1, by omega⟩
      have HT : Hid (U192 (a * 2 ^ k)) := Lib.hid ⟨q4.1, by omega⟩
      have hs1 : addV (a * 2 ^ k) (a * 2 ^ k) = a * 2 ^ (k + 1) := by unfold addV addOk; rw [if_pos (by simp only [decide_eq_true_eq]; omega), q2]
      have HS1 := Lib.hid hs1
      by_cases hbit : bt b k = 1
      · have hb2 : (Go.bits .and .u64 (b / 2 ^ k) 1 == 1) = true := by rw [hand, beq_iff_eq]; exact hbit
        rw [if_pos hbit] at q1
        have hs2 : addV (a * (b % 2 ^ k)) (a * 2 ^ k) = a * (b % 2 ^ (k + 1)) := by unfold addV addOk; rw [if_pos (by simp only [decide_eq_true_eq]; omega), q1]
        have HS2 := Lib.hid hs2
        clear hand hbit q1 q2 q3 q4 hs1 hs2 b01
        go_wp2_with fail
        refine (refAdd_calls _ _ _ HO.out HT.out).mono ?_
        rintro e w1 ⟨rfl, hb1⟩
        rw [HS2.out]
        have ho1 := ho.bel hb1
        have ht1 := ht.bel hb1
        have hr1 := hr.bel hb1
        have HB1 := Lib.hid (bthen HBel.out hb1)
        obtain ⟨c0, c1, c2⟩ := ho1.cells3
        have f0 := ho1.froz 0; have f1 := ho1.froz 1; have f2 := ho1.froz 2
        obtain ⟨d0, d1, d2⟩ := ht1.cells3
        clear hb1
        go_wp2_with fail
        refine (refAdd_calls _ _ _ HT.out HT.out).mono ?_
        rintro e w2 ⟨rfl, hb2⟩
        rw [HS1.out]
        have HB2 := Lib.hid (bthen (below_set3 HB1.out (by omega) _ _ _) hb2)
        have ho2 := Blk.bel (Blk.set3 ho1) hb2
        have ht2 := Blk.bel (Blk.set3_ne ht1 (by omega)) hb2
        have hr2 := Blk.bel (Blk.set3_ne hr1 (by omega)) hb2
        obtain ⟨g0, g1, g2⟩ := ht2.cells3
        have k0 := ht2.froz 0; have k1 := ht2.froz 1; have k2 := ht2.froz 2
        clear hb2
        go_wp2_with fail
        go_roundw
        case rel =>
          refine ⟨k + 1, by omega, by go_num, Lib.hid (below_set3 HB2.out (by omega) _ _ _), hr2.set3_ne (by omega), ho2.set3_ne (by omega), ht2.set3⟩
        case measure => simp [intOf]; omega
      · have hb2 : (Go.bits .and .u64 (b / 2 ^ k) 1 == 1) = false := by rw [hand, beq_eq_false_iff_ne]; exact hbit
        rw [if_neg hbit] at q1
        have HQ := Lib.hid q1
        clear hand hbit q1 q2 q3 q4 hs1 b01
        go_wp2_with fail
        refine (refAdd_calls _ _ _ HT.out HT.out).mono ?_
        rintro e w2 ⟨rfl, hb2⟩
        rw [HS1.out]
        have HB2 := Lib.hid (bthen HBel.out hb2)
        have ho2 := ho.bel hb2
        have ht2 := ht.bel hb2
        have hr2 := hr.bel hb2
        obtain ⟨g0, g1, g2⟩ := ht2.cells3
        have k0 := ht2.froz 0; have k1 := ht2.froz 1; have k2 := ht2.froz 2
        clear hb2
        go_wp2_with fail
        go_roundw
        case rel =>
          refine ⟨k + 1, by omega, by go_num, Lib.hid (below_set3 HB2.out (by omega) _ _ _), hr2.set3_ne (by omega), ?_, ht2.set3⟩
          rw [HQ.out]
          exact ho2.set3_ne (by omega)
        case measure => simp [intOf]; omega
    · have hk64 : k = 64 := by omega
      subst hk64
      have hm : b % 2 ^ 64 = b := Int.emod_eq_of_lt hb0 hb1
      rw [hm] at ho
      obtain ⟨o0, o1, o2⟩ := ho.cells3
      obtain ⟨r0, r1, r2⟩ := hr.cells3
      have f0 := hr.froz 0; have f1 := hr.froz 1; have f2 := hr.froz 2
      clear hm
      go_wp2
      refine bodyPost_ret (v := .agg #[.int .u64 (MWide.w0 (a * b)), .int .u64 (MWide.w1 (a * b)), .int .u64 (MWide.w2 (a * b))]) ?_ rfl ⟨rfl, below_set3 HBel.out (by omega) _ _ _⟩
      obtain ⟨q0, q1, q2⟩ := (hr.set3 (x' := .int .u64 (MWide.w0 (a * b))) (y' := .int .u64 (MWide.w1 (a * b))) (z' := .int .u64 (MWide.w2 (a * b)))).cells3
      simp [results, Tryd.results15, go_sem, q0, q1, q2]

end Go.Proofs.YtakkifedcbhgfaaDoor.K
