/- A tenth, as the reference has it. -/
import Derived.Test.YtakkifedcbhgfaaDoorBase
import Derived.Handy
import Derived.Test.YtakkifedcbhgfaaDoorWWide8
namespace Go.Proofs.YtakkifedcbhgfaaDoor.K
open Go Go.RowKit Go.Proofs.YtakkifedcbhgfaaDoorW.PrintWords Go.Proofs.YtakkifedcbhgfaaDoorW.PrintLast Go.Proofs.YtakkifedcbhgfaaDoorW.PrintMore
set_option linter.unusedVariables false
set_option linter.unusedSimpArgs false
open Go.Proofs.YtakkifedcbhgfaaDoor.MWide (bt W64 U192 addV subV addOk subOk cry sumO bor difO cmpV width)
def tenO (a : Int) (k : Nat) : Int := a / 2 ^ k / 10 * 2 ^ k
def tenR (a : Int) (k : Nat) : Int := a / 2 ^ k % 10
theorem ten_step {a : Int} (k : Nat) : tenR a k = (if 10 ≤ 2 * tenR a (k + 1) + bt a k then 2 * tenR a (k + 1) + bt a k - 10 else 2 * tenR a (k + 1) + bt a k) ∧
    tenO a k = (if 10 ≤ 2 * tenR a (k + 1) + bt a k then tenO a (k + 1) + 2 ^ k else tenO a (k + 1)) := by
  have h1 := MWide.div_succ a k
  have h2 := MWide.bt01 a k
  unfold tenO tenR
  rw [h1, MWide.p2s]
  generalize a / (2 * 2 ^ k) = A at *
  generalize bt a k = b at *
  have e : (2 * A + b) / 10 = if 10 ≤ 2 * (A % 10) + b then 2 * (A / 10) + 1 else 2 * (A / 10) := by split <;> omega
  refine ⟨by split <;> omega, ?_⟩
  rw [e]
  split
  · rw [Int.add_mul, Int.one_mul, Int.mul_assoc, Int.mul_left_comm]
  · rw [Int.mul_assoc, Int.mul_left_comm]
theorem tenR_b (a : Int) (k : Nat) : 0 ≤ tenR a k ∧ tenR a k ≤ 9 := by unfold tenR; omega
theorem tenO_u {a : Int} (k : Nat) (h : U192 a) : U192 (tenO a k) := by
  have hp := MWide.p2 k
  have h1 := MWide.parts a (2 ^ k)
  have h2 := Int.emod_nonneg a (Int.ne_of_gt hp)
  have h3 : 0 ≤ a / 2 ^ k := Int.ediv_nonneg h.1 (Int.le_of_lt hp)
  have h4 : 0 ≤ a / 2 ^ k / 10 := by omega
  unfold tenO
  refine ⟨Int.mul_nonneg h4 (Int.le_of_lt hp), ?_⟩
  have h5 : a / 2 ^ k / 10 * 2 ^ k ≤ a / 2 ^ k * 2 ^ k := Int.mul_le_mul_of_nonneg_right (by omega) (Int.le_of_lt hp)
  rw [Int.mul_comm (a / 2 ^ k)] at h5
  have := h.2
  omega
theorem tenO_bit (a : Int) (k : Nat) : bt (tenO a (k + 1)) k = 0 := by
  unfold tenO
  rw [Int.mul_comm]
  exact MWide.bt_mul _ _
set_option maxHeartbeats 1000000 in
set_option maxRecDepth 100000 in
theorem tenth_calls (a : Int) (w : World) (ha : U192 a) :
    Calls Tryd.prog 66 #[.agg #[.int .u64 (MWide.w0 a), .int .u64 (MWide.w1 a), .int .u64 (MWide.w2 a)]] w fun e w' => e = .returned (.tuple #[.agg #[.int .u64 (MWide.w0 (a / 10)), .int .u64 (MWide.w1 (a / 10)), .int .u64 (MWide.w2 (a / 10))], .int .i64 (a % 10)]) ∧ Bel w w' := by
  have HA := Lib.hid ha
  clear ha
  go_enter Tryd.func66, Tryd.ntmps66
  go_wp2
  go_loopw [5, 6] (fun r i wr => ∃ k : Nat, k ≤ 192 ∧ i = .int .i64 ((k : Int) - 1) ∧ r = .int .i64 (tenR a k) ∧ Hid (Below w.heap.size w wr) ∧ Blk wr w.heap.size #[.int .u64 (MWide.w0 a), .int .u64 (MWide.w1 a), .int .u64 (MWide.w2 a)] 24 ∧ Blk wr (w.heap.size + 1) #[.int .u64 0, .int .u64 0, .int .u64 0] 24 ∧ Blk wr (w.heap.size + 1 + 1) #[.int .u64 (MWide.w0 (tenO a k)), .int .u64 (MWide.w1 (tenO a k)), .int .u64 (MWide.w2 (tenO a k))] 24) (fun _ i _ => (intOf i + 1).toNat)
  case atStart =>
    have h1 := HA.out
    unfold U192 at h1
    have hz : a / 2 ^ 192 = 0 := by
      rw [show (2 : Int) ^ 192 = 6277101735386680763835789423207666416102355444464034512896 from rfl]
      omega
    refine ⟨192, by omega, rfl, by unfold tenR; rw [hz]; rfl, Lib.hid ?_, ?_, ?_, ?_⟩
    · exact ((((Below.refl _ w).alloc (Nat.le_refl _) _).alloc (by simp) _).alloc (by simp; omega) _)
    · exact ((Blk.new w _ 24).alloc _).alloc _
    · exact (Blk.new_at (by simp) _ 24).alloc _
    · unfold tenO
      rw [hz, show (0 : Int) / 10 * 2 ^ 192 = 0 from Int.zero_mul _]
      exact Blk.new_at (by simp) _ 24
  case round =>
    obtain ⟨k, hk, rfl, rfl, HBel, hba, hbr, hbo⟩ := hrel
    by_cases hlt : 0 < k
    · obtain ⟨j, rfl⟩ : ∃ j, k = j + 1 := ⟨k - 1, by omega⟩
      have hi : (((j + 1 : Nat) : Int) - 1) = (j : Int) := by omega
      rw [hi]
      clear hi
      obtain ⟨a0, a1, a2⟩ := hba.cells3
      have hj : j < 192 := by omega
      obtain ⟨s1, s2⟩ := ten_step (a := a) j
      have b01 := MWide.bt01 a j
      have rb := tenR_b a (j + 1)
      by_cases hc : 10 ≤ 2 * tenR a (j + 1) + bt a j
      · rw [if_pos hc] at s1 s2
        have HS := Lib.hid (And.intro s1 s2)
        have HU := Lib.hid (tenO_u (j + 1) HA.out)
        have HZ := Lib.hid (tenO_bit a j)
        clear s1 s2
        go_wp2_with (first
          | (go_at_call 76; refine (bit_calls a j _ hj).mono ?_; rintro e w1 ⟨rfl, hb⟩; have o1N := hbo.bel hb; have HB1 := Lib.hid hb; obtain ⟨o0, o1, o2⟩ := o1N.cells3; clear hb)
          | (go_at_call 77; refine (put_calls (tenO a (j + 1)) j _ HU.out hj HZ.out).mono ?_; rintro e w2 ⟨rfl, hb⟩; have o2N := o1N.bel hb; have HB2 := Lib.hid hb; obtain ⟨p0, p1, p2⟩ := o2N.cells3; have f0 := o2N.froz 0; have f1 := o2N.froz 1; have f2 := o2N.froz 2; clear hb))
        go_roundw
        case rel =>
          have HBB := bthen (bthen HBel.out HB1.out) HB2.out
          refine ⟨j, by omega, by first | rfl | go_num, by rw [HS.out.1], Lib.hid (below_set3 HBB (by omega) _ _ _), ((hba.bel HB1.out).bel HB2.out).set3_ne (by omega), ((hbr.bel HB1.out).bel HB2.out).set3_ne (by omega), ?_⟩
          rw [HS.out.2]
          exact o2N.set3
        case measure => simp [intOf]; try omega
      · rw [if_neg hc] at s1 s2
        have HS := Lib.hid (And.intro s1 s2)
        clear s1 s2
        go_wp2_with (first
          | (go_at_call 76; refine (bit_calls a j _ hj).mono ?_; rintro e w1 ⟨rfl, hb⟩; have HB1 := Lib.hid hb; clear hb))
        go_roundw
        case rel =>
          refine ⟨j, by omega, by first | rfl | go_num, by rw [HS.out.1], Lib.hid (bthen HBel.out HB1.out), hba.bel HB1.out, hbr.bel HB1.out, ?_⟩
          rw [HS.out.2]
          exact hbo.bel HB1.out
        case measure => simp [intOf]; try omega
    · have hk0 : k = 0 := by omega
      subst hk0
      have e1 : tenO a 0 = a / 10 := by unfold tenO; rw [Int.pow_zero]; omega
      have e2 : tenR a 0 = a % 10 := by unfold tenR; rw [Int.pow_zero]; omega
      rw [e1] at hbo
      rw [e2]
      obtain ⟨o0, o1, o2⟩ := hbo.cells3
      obtain ⟨r0, r1, r2⟩ := hbr.cells3
      have f0 := hbr.froz 0; have f1 := hbr.froz 1; have f2 := hbr.froz 2
      clear e1 e2
      go_wp2
      refine bodyPost_ret (v := .tuple #[.agg #[.int .u64 (MWide.w0 (a / 10)), .int .u64 (MWide.w1 (a / 10)), .int .u64 (MWide.w2 (a / 10))], .int .i64 (a % 10)]) ?_ rfl ⟨rfl, below_set3 HBel.out (by omega) _ _ _⟩
      obtain ⟨q0, q1, q2⟩ := (hbr.set3 (x' := .int .u64 (MWide.w0 (a / 10))) (y' := .int .u64 (MWide.w1 (a / 10))) (z' := .int .u64 (MWide.w2 (a / 10)))).cells3
      simp [results, Tryd.results66, go_sem, q0, q1, q2]

end Go.Proofs.YtakkifedcbhgfaaDoor.K
