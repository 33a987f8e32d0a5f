/- The reference's difference, bit by bit. -/
import Derived.Test.YtakkifedcbhgfaaDoorBase
import Derived.Handy
import Derived.Test.YtakkifedcbhgfaaDoorWWide2
namespace Go.Proofs.YtakkifedcbhgfaaDoor.K
open Go Go.RowKit Go.Proofs.YtakkifedcbhgfaaDoorW.PrintWords Go.Proofs.YtakkifedcbhgfaaDoorW.PrintLast Go.Proofs.YtakkifedcbhgfaaDoorW.PrintMore
set_option linter.unusedVariables false
set_option linter.unusedSimpArgs false
open Go.Proofs.YtakkifedcbhgfaaDoor.MWide (bt W64 U192 subV subOk bor difO)
set_option maxHeartbeats 1000000 in
set_option maxRecDepth 100000 in
theorem refSub_calls (a b : Int) (w : World) (ha : U192 a) (hb : U192 b) :
    Calls Tryd.prog 37 #[.agg #[.int .u64 (MWide.w0 a), .int .u64 (MWide.w1 a), .int .u64 (MWide.w2 a)], .agg #[.int .u64 (MWide.w0 b), .int .u64 (MWide.w1 b), .int .u64 (MWide.w2 b)]] w fun e w' => e = .returned (.tuple #[.agg #[.int .u64 (MWide.w0 (subV a b)), .int .u64 (MWide.w1 (subV a b)), .int .u64 (MWide.w2 (subV a b))], .bool (subOk a b)]) ∧ Bel w w' := by
  have HA := Lib.hid ha; have HB := Lib.hid hb
  clear ha hb
  go_enter Tryd.func37, Tryd.ntmps37
  go_wp2
  go_loopw [7, 8] (fun c i wr => ∃ k : Nat, k ≤ 192 ∧ i = .int .i64 k ∧ c = .int .u64 (bor a b k) ∧ Hid (Below w.heap.size w wr) ∧ Blk wr w.heap.size #[.int .u64 (MWide.w0 a), .int .u64 (MWide.w1 a), .int .u64 (MWide.w2 a)] 24 ∧ Blk wr (w.heap.size + 1) #[.int .u64 (MWide.w0 b), .int .u64 (MWide.w1 b), .int .u64 (MWide.w2 b)] 24 ∧ Blk wr (w.heap.size + 1 + 1) #[.int .u64 0, .int .u64 0, .int .u64 0] 24 ∧ Blk wr (w.heap.size + 1 + 1 + 1) #[.int .u64 (MWide.w0 (difO a b k)), .int .u64 (MWide.w1 (difO a b k)), .int .u64 (MWide.w2 (difO a b k))] 24) (fun _ i _ => 192 - (intOf i).toNat)
  case atStart =>
    have h0 := MWide.bor_0 a b
    refine ⟨0, by omega, rfl, by rw [h0.1], Lib.hid ?_, ?_, ?_, ?_, ?_⟩
    · exact ((((Below.refl _ w).alloc (Nat.le_refl _) _).alloc (by simp) _).alloc (by simp; omega) _).alloc (by simp; omega) _
    · exact (((Blk.new w _ 24).alloc _).alloc _).alloc _
    · exact ((Blk.new_at (by simp) _ 24).alloc _).alloc _
    · exact (Blk.new_at (by simp) _ 24).alloc _
    · rw [h0.2]
      exact Blk.new_at (by simp) _ 24
  case round =>
    obtain ⟨k, hk, rfl, rfl, HBel, hba, hbb, hbr, hbo⟩ := hrel
    obtain ⟨a0, a1, a2⟩ := hba.cells3
    obtain ⟨b0, b1, b2⟩ := hbb.cells3
    obtain ⟨o0, o1, o2⟩ := hbo.cells3
    obtain ⟨r0, r1, r2⟩ := hbr.cells3
    by_cases hlt : k < 192
    · clear o0 o1 o2 r0 r1 r2
      obtain ⟨HS1, HS2⟩ := MWide.sub_step a b k
      have HC := Lib.hid HS1
      have HO := Lib.hid HS2
      clear HS1 HS2
      have c01 := MWide.bor01 a b k
      have p01 := MWide.bt01 a k
      have q01 := MWide.bt01 b k
      go_wp2_with fail
      go_region_held3 (fun w' => w'.cell? ⟨w.heap.size, 0, none⟩ = some (.int .u64 (MWide.w0 a)) ∧ w'.cell? ⟨w.heap.size, 1, none⟩ = some (.int .u64 (MWide.w1 a)) ∧ w'.cell? ⟨w.heap.size, 2, none⟩ = some (.int .u64 (MWide.w2 a)) ∧ w'.cell? ⟨w.heap.size + 1, 0, none⟩ = some (.int .u64 (MWide.w0 b)) ∧ w'.cell? ⟨w.heap.size + 1, 1, none⟩ = some (.int .u64 (MWide.w1 b)) ∧ w'.cell? ⟨w.heap.size + 1, 2, none⟩ = some (.int .u64 (MWide.w2 b)) ∧ Bel wr w') (first | exact kc6 hb (by assumption) | exact ⟨a0, a1, a2, b0, b1, b2, Bel.drew _⟩)
        (first | (go_at_call 76; refine (bit_calls _ k _ hlt).mono ?_; rintro e w' ⟨rfl, hb⟩))
      rename_i w1 hb1 hheld
      have hB := hheld.2.2.2.2.2.2
      clear hb1 hheld hb a0 a1 a2 b0 b1 b2
      have hoN := hbo.bel hB
      have haN := hba.bel hB
      have hbN := hbb.bel hB
      have hrN := hbr.bel hB
      obtain ⟨o0, o1, o2⟩ := hoN.cells3
      clear hba hbb hbr hbo
      have HBl := Lib.hid (bthen HBel.out hB)
      clear hB HBel
      have hw1 : IntKind.u64.wrap (bt b k + bor a b k) = bt b k + bor a b k := MOct.wraps_u64 _ (by omega) (by omega)
      have hw2 : IntKind.u64.wrap (bt a k + (bt b k + bor a b k)) = bt a k + (bt b k + bor a b k) := MOct.wraps_u64 _ (by omega) (by omega)
      have hand := and1_u64 (bt a k + (bt b k + bor a b k)) (by omega) (by omega)
      obtain ⟨y, hy⟩ : ∃ y, bt b k + bor a b k = y := ⟨_, rfl⟩
      rw [hw1]
      rw [hy] at hw2 hand HC HO ⊢
      have hy0 : 0 ≤ y := by omega
      have hy2 : y ≤ 2 := by omega
      obtain ⟨x, hx⟩ : ∃ x, bt a k = x := ⟨_, rfl⟩
      rw [hx] at hw2 hand HC HO p01 ⊢
      have HW := Lib.hid hw2
      clear hw1 hw2 hy hx c01 q01
      obtain ⟨u, hu⟩ : ∃ u, u = x + y := ⟨_, rfl⟩
      by_cases hyx : x < y
      all_goals
        first | rw [if_pos (show y > x from hyx)] at HC | rw [if_neg (show ¬ y > x from hyx)] at HC
        by_cases h2 : (x + y) % 2 = 1
        · have hbit : (Go.bits .and .u64 (x + y) 1 == 1) = true := by rw [hand, beq_iff_eq]; exact h2
          have H2 := Lib.hid h2
          clear hand h2 hu
          have hlo := MWide.difO_lt a b k
          have hz := MWide.bt_lt hlo.1 hlo.2
          have HU : Hid (U192 (difO a b k)) := Lib.hid (lt192 hlo.1 hlo.2 hk)
          have HZ := Lib.hid hz
          clear hlo hz
          go_wp2_with (go_at_call 77; refine (put_calls (difO a b k) k _ HU.out hlt HZ.out).mono ?_; rintro e w2 ⟨rfl, hb2⟩; have o2N := hoN.bel hb2; obtain ⟨c0, c1, c2⟩ := o2N.cells3; have f0 := o2N.froz 0; have f1 := o2N.froz 1; have f2 := o2N.froz 2)
          go_roundw
          case rel =>
            refine ⟨k + 1, by omega, by go_num, by rw [HC.out], Lib.hid ?_, ?_, ?_, ?_, ?_⟩
            · exact below_set3 (bthen HBl.out hb2) (by omega) _ _ _
            · exact (haN.bel hb2).set3_ne (by omega)
            · exact (hbN.bel hb2).set3_ne (by omega)
            · exact (hrN.bel hb2).set3_ne (by omega)
            · rw [HO.out, H2.out, Int.mul_one]
              exact o2N.set3
          case measure => simp [intOf]; omega
        · have hbit : (Go.bits .and .u64 (x + y) 1 == 1) = false := by rw [hand, beq_eq_false_iff_ne]; exact h2
          have h20 : (x + y) % 2 = 0 := by omega
          have H2 := Lib.hid h20
          clear hu
          clear hand h2 h20
          go_wp2
          go_roundw
          case rel =>
            refine ⟨k + 1, by omega, by go_num, by rw [HC.out], HBl, haN, hbN, hrN, ?_⟩
            rw [HO.out, H2.out, Int.mul_zero, Int.add_zero]
            exact hoN
          case measure => simp [intOf]; omega
    · have hk192 : k = 192 := by omega
      subst hk192
      obtain ⟨ht1, ht2⟩ := MWide.bor_top HA.out HB.out
      have c01 := MWide.bor01 a b 192
      have f0 := hbr.froz 0
      have f1 := hbr.froz 1
      have f2 := hbr.froz 2
      by_cases hov : subOk a b = true
      · have hc0 : ¬ 0 < bor a b 192 := by
          have : bor a b 192 = 0 := ht1.2 (by unfold subOk at hov; simpa using hov)
          omega
        have hsum : difO a b 192 = subV a b := by
          rw [ht2 (by unfold subOk at hov; simpa using hov)]; unfold subV; rw [if_pos hov]
        have HSU := Lib.hid hsum
        have HOV := Lib.hid hov
        clear ht1 ht2 hov hsum
        go_wp2
        refine bodyPost_ret (v := .tuple #[.agg #[.int .u64 (MWide.w0 (subV a b)), .int .u64 (MWide.w1 (subV a b)), .int .u64 (MWide.w2 (subV a b))], .bool (subOk a b)]) ?_ rfl ⟨rfl, below_set3 HBel.out (by omega) _ _ _⟩
        rw [HOV.out, ← HSU.out]
        obtain ⟨q0, q1, q2⟩ := (hbr.set3 (x' := .int .u64 (MWide.w0 (difO a b 192))) (y' := .int .u64 (MWide.w1 (difO a b 192))) (z' := .int .u64 (MWide.w2 (difO a b 192)))).cells3
        simp [results, Tryd.results37, go_sem, q0, q1, q2]
      · have hc0 : 0 < bor a b 192 := by
          have : bor a b 192 ≠ 0 := fun h => hov (by unfold subOk; simpa using ht1.1 h)
          omega
        have hz : subV a b = 0 := by unfold subV; rw [if_neg hov]
        have HOV : Hid (subOk a b = false) := Lib.hid (by simpa using hov)
        have HZ := Lib.hid hz
        clear ht1 ht2 hov hz
        go_wp2
        refine bodyPost_ret (v := .tuple #[.agg #[.int .u64 (MWide.w0 (subV a b)), .int .u64 (MWide.w1 (subV a b)), .int .u64 (MWide.w2 (subV a b))], .bool (subOk a b)]) ?_ rfl ⟨rfl, below_set3 HBel.out (by omega) _ _ _⟩
        rw [HOV.out, HZ.out]
        obtain ⟨q0, q1, q2⟩ := (hbr.set3 (x' := .int .u64 0) (y' := .int .u64 0) (z' := .int .u64 0)).cells3
        simp [results, Tryd.results37, go_sem, q0, q1, q2]
        exact ⟨rfl, rfl, rfl⟩

end Go.Proofs.YtakkifedcbhgfaaDoor.K
