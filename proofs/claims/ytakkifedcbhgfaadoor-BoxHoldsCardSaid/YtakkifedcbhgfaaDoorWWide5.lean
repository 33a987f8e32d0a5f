/- Sums and differences, a word at a time. -/
import Derived.Test.YtakkifedcbhgfaaDoorBase
import Derived.Handy
import Derived.Test.YtakkifedcbhgfaaDoorWCarry
import Derived.RegionTactic
namespace Go.Proofs.YtakkifedcbhgfaaDoor.K
open Go Go.RowKit Go.Proofs.YtakkifedcbhgfaaDoorW.PrintWords Go.Proofs.YtakkifedcbhgfaaDoorW.PrintLast Go.Proofs.YtakkifedcbhgfaaDoorW.PrintMore
set_option linter.unusedVariables false
set_option linter.unusedSimpArgs false
open Go.Proofs.YtakkifedcbhgfaaDoor.MWide (bt W64 U192 addV subV addOk subOk cry sumO bor difO cmpV width)
set_option maxHeartbeats 1000000 in
set_option maxRecDepth 100000 in
theorem Add_calls (a b : Int) (w : World) (ha : U192 a) (hb : U192 b) :
    Calls Tryd.prog 24 #[.agg #[.int .u64 (MWide.w0 a), .int .u64 (MWide.w1 a), .int .u64 (MWide.w2 a)], .agg #[.int .u64 (MWide.w0 b), .int .u64 (MWide.w1 b), .int .u64 (MWide.w2 b)]] w fun e w' => e = .returned (.tuple #[.agg #[.int .u64 (MWide.w0 (addV a b)), .int .u64 (MWide.w1 (addV a b)), .int .u64 (MWide.w2 (addV a b))], .bool (addOk a b)]) ∧ Bel w w' := by
  obtain ⟨c0, hc0⟩ : ∃ c, c = (MWide.w0 a + MWide.w0 b) / 18446744073709551616 := ⟨_, rfl⟩
  obtain ⟨c1, hc1⟩ : ∃ c, c = (MWide.w1 a + MWide.w1 b + c0) / 18446744073709551616 := ⟨_, rfl⟩
  obtain ⟨c2, hc2⟩ : ∃ c, c = (MWide.w2 a + MWide.w2 b + c1) / 18446744073709551616 := ⟨_, rfl⟩
  have H := Lib.hid (MWide.add_words ha hb c0 c1 c2 hc0 hc1 hc2)
  have HA := Lib.hid ha; have HB := Lib.hid hb
  have k0 := H.out.1; have k1 := H.out.2.1; have k2 := H.out.2.2.1
  have r0 := fun w => add64 (MWide.w0 a) (MWide.w0 b) 0 (MWide.w0_64 a) (MWide.w0_64 b) (Int.le_refl _) (by decide) w
  have r1 := fun w => add64 (MWide.w1 a) (MWide.w1 b) c0 (MWide.w1_64 a) (MWide.w1_64 b) k0.1 k0.2 w
  have r2 := fun w => add64 (MWide.w2 a) (MWide.w2 b) c1 (MWide.w2_64 a) (MWide.w2_64 b) k1.1 k1.2 w
  rw [Int.add_zero, ← hc0] at r0
  rw [← hc1] at r1
  rw [← hc2] at r2
  clear ha hb hc0 hc1 hc2
  go_enter Tryd.func24, Tryd.ntmps24
  go_wp2
  obtain ⟨-, -, -, hy, hn⟩ := H.out
  by_cases hov : addOk a b = true
  · obtain ⟨e2, s0, s1, s2⟩ := hy hov
    rw [s0] at r0
    rw [s1] at r1
    rw [s2] at r2
    have g2 : ¬ 0 < c2 := by omega
    have HOV := Lib.hid hov
    clear hy hn hov s0 s1 s2 e2 H k2
    refine wp_loop_rounds 4 ?_
    rw [rounds_succ]
    go_wp2
    go_region
    go_wp2
    rw [rounds_succ]
    go_wp2
    go_region
    go_wp2
    rw [rounds_succ]
    go_wp2
    go_region
    go_wp2
    rw [rounds_succ]
    go_wp2
    refine bodyPost_ret (v := .tuple #[.agg #[.int .u64 (MWide.w0 (addV a b)), .int .u64 (MWide.w1 (addV a b)), .int .u64 (MWide.w2 (addV a b))], .bool (addOk a b)]) ?_ rfl ⟨rfl, ?_⟩
    · rw [HOV.out]
      simp [results, Tryd.results24, go_sem]
    · (repeat (first | exact Below.refl _ _ | refine Below.drew ?_ | refine Below.alloc ?_ (by simp <;> omega) _))
  · have hov2 : addOk a b = false := by simpa using hov
    obtain ⟨e2, hz⟩ := hn hov2
    have g2 : 0 < c2 := by omega
    have HOV := Lib.hid hov2
    have HZ := Lib.hid hz
    clear hy hn hov hov2 hz e2 H k2
    refine wp_loop_rounds 4 ?_
    rw [rounds_succ]
    go_wp2
    go_region
    go_wp2
    rw [rounds_succ]
    go_wp2
    go_region
    go_wp2
    rw [rounds_succ]
    go_wp2
    go_region
    go_wp2
    rw [rounds_succ]
    go_wp2
    refine bodyPost_ret (v := .tuple #[.agg #[.int .u64 (MWide.w0 (addV a b)), .int .u64 (MWide.w1 (addV a b)), .int .u64 (MWide.w2 (addV a b))], .bool (addOk a b)]) ?_ rfl ⟨rfl, ?_⟩
    · rw [HOV.out, HZ.out]
      simp [results, Tryd.results24, go_sem]
      exact ⟨rfl, rfl, rfl⟩
    · (repeat (first | exact Below.refl _ _ | refine Below.drew ?_ | refine Below.alloc ?_ (by simp <;> omega) _))
set_option maxHeartbeats 1000000 in
set_option maxRecDepth 100000 in
theorem Sub_calls (a b : Int) (w : World) (ha : U192 a) (hb : U192 b) :
    Calls Tryd.prog 36 #[.agg #[.int .u64 (MWide.w0 a), .int .u64 (MWide.w1 a), .int .u64 (MWide.w2 a)], .agg #[.int .u64 (MWide.w0 b), .int .u64 (MWide.w1 b), .int .u64 (MWide.w2 b)]] w fun e w' => e = .returned (.tuple #[.agg #[.int .u64 (MWide.w0 (subV a b)), .int .u64 (MWide.w1 (subV a b)), .int .u64 (MWide.w2 (subV a b))], .bool (subOk a b)]) ∧ Bel w w' := by
  obtain ⟨c0, hc0⟩ : ∃ c, c = brw (MWide.w0 a) (MWide.w0 b) 0 := ⟨_, rfl⟩
  obtain ⟨c1, hc1⟩ : ∃ c, c = brw (MWide.w1 a) (MWide.w1 b) c0 := ⟨_, rfl⟩
  obtain ⟨c2, hc2⟩ : ∃ c, c = brw (MWide.w2 a) (MWide.w2 b) c1 := ⟨_, rfl⟩
  have H := Lib.hid (MWide.sub_words ha hb c0 c1 c2 (by rw [hc0]; unfold brw; rw [Int.add_zero]) hc1 hc2)
  have HA := Lib.hid ha; have HB := Lib.hid hb
  have k0 := H.out.1; have k1 := H.out.2.1; have k2 := H.out.2.2.1
  have r0 := fun w => sub64 (MWide.w0 a) (MWide.w0 b) 0 (MWide.w0_64 a) (MWide.w0_64 b) (Int.le_refl _) (by decide) w
  have r1 := fun w => sub64 (MWide.w1 a) (MWide.w1 b) c0 (MWide.w1_64 a) (MWide.w1_64 b) k0.1 k0.2 w
  have r2 := fun w => sub64 (MWide.w2 a) (MWide.w2 b) c1 (MWide.w2_64 a) (MWide.w2_64 b) k1.1 k1.2 w
  rw [Int.sub_zero, ← hc0] at r0
  rw [← hc1] at r1
  rw [← hc2] at r2
  clear ha hb hc0 hc1 hc2
  go_enter Tryd.func36, Tryd.ntmps36
  go_wp2
  obtain ⟨-, -, -, hy, hn⟩ := H.out
  by_cases hov : subOk a b = true
  · obtain ⟨e2, s0, s1, s2⟩ := hy hov
    rw [s0] at r0
    rw [s1] at r1
    rw [s2] at r2
    have g2 : ¬ 0 < c2 := by omega
    have HOV := Lib.hid hov
    clear hy hn hov s0 s1 s2 e2 H k2
    refine wp_loop_rounds 4 ?_
    rw [rounds_succ]
    go_wp2
    go_region
    go_wp2
    rw [rounds_succ]
    go_wp2
    go_region
    go_wp2
    rw [rounds_succ]
    go_wp2
    go_region
    go_wp2
    rw [rounds_succ]
    go_wp2
    refine bodyPost_ret (v := .tuple #[.agg #[.int .u64 (MWide.w0 (subV a b)), .int .u64 (MWide.w1 (subV a b)), .int .u64 (MWide.w2 (subV a b))], .bool (subOk a b)]) ?_ rfl ⟨rfl, ?_⟩
    · rw [HOV.out]
      simp [results, Tryd.results36, go_sem]
    · (repeat (first | exact Below.refl _ _ | refine Below.drew ?_ | refine Below.alloc ?_ (by simp <;> omega) _))
  · have hov2 : subOk a b = false := by simpa using hov
    obtain ⟨e2, hz⟩ := hn hov2
    have g2 : 0 < c2 := by omega
    have HOV := Lib.hid hov2
    have HZ := Lib.hid hz
    clear hy hn hov hov2 hz e2 H k2
    refine wp_loop_rounds 4 ?_
    rw [rounds_succ]
    go_wp2
    go_region
    go_wp2
    rw [rounds_succ]
    go_wp2
    go_region
    go_wp2
    rw [rounds_succ]
    go_wp2
    go_region
    go_wp2
    rw [rounds_succ]
    go_wp2
    refine bodyPost_ret (v := .tuple #[.agg #[.int .u64 (MWide.w0 (subV a b)), .int .u64 (MWide.w1 (subV a b)), .int .u64 (MWide.w2 (subV a b))], .bool (subOk a b)]) ?_ rfl ⟨rfl, ?_⟩
    · rw [HOV.out, HZ.out]
      simp [results, Tryd.results36, go_sem]
      exact ⟨rfl, rfl, rfl⟩
    · (repeat (first | exact Below.refl _ _ | refine Below.drew ?_ | refine Below.alloc ?_ (by simp <;> omega) _))

end Go.Proofs.YtakkifedcbhgfaaDoor.K
