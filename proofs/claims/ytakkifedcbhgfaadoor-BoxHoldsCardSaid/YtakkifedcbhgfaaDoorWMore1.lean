/- Ten times a wide number, and a digit. -/
import Derived.Test.YtakkifedcbhgfaaDoorBase
import Derived.Handy
import Derived.Test.YtakkifedcbhgfaaDoorWLaw01b
namespace Go.Proofs.YtakkifedcbhgfaaDoor.K
open Go Go.RowKit Go.Proofs.YtakkifedcbhgfaaDoorW.PrintWords Go.Proofs.YtakkifedcbhgfaaDoorW.PrintLast Go.Proofs.YtakkifedcbhgfaaDoorW.PrintMore
set_option linter.unusedVariables false
set_option linter.unusedSimpArgs false
open Go.Proofs.YtakkifedcbhgfaaDoor.MWide (bt W64 U192 addV subV addOk subOk cry sumO bor difO cmpV width)
open Go.Proofs.YtakkifedcbhgfaaDoor.MText (padD dec strip numOf parseOk parseV canon digs)
/-- What a digit more comes to. -/
def moreV (a d : Int) : Int := (10 * a + d) % 6277101735386680763835789423207666416102355444464034512896
def moreOk (a d : Int) : Bool := decide (10 * a + d < 6277101735386680763835789423207666416102355444464034512896)
theorem moreV_u (a d : Int) : U192 (moreV a d) := by unfold moreV U192; omega
theorem moreV_w (a d : Int) : MWide.w0 (moreV a d) = MWide.w0 (10 * a + d) ∧ MWide.w1 (moreV a d) = MWide.w1 (10 * a + d) ∧ MWide.w2 (moreV a d) = MWide.w2 (10 * a + d) := by
  unfold moreV MWide.w0 MWide.w1 MWide.w2
  generalize 10 * a + d = n
  refine ⟨by omega, ?_, ?_⟩
  · have h1 := MWide.parts n 6277101735386680763835789423207666416102355444464034512896
    generalize n / 6277101735386680763835789423207666416102355444464034512896 = q at *
    generalize n % 6277101735386680763835789423207666416102355444464034512896 = r at *
    subst h1
    have : (6277101735386680763835789423207666416102355444464034512896 * q + r) / 18446744073709551616 = 340282366920938463463374607431768211456 * q + r / 18446744073709551616 := by omega
    rw [this]; omega
  · have h1 := MWide.parts n 6277101735386680763835789423207666416102355444464034512896
    generalize n / 6277101735386680763835789423207666416102355444464034512896 = q at *
    generalize n % 6277101735386680763835789423207666416102355444464034512896 = r at *
    subst h1
    have : (6277101735386680763835789423207666416102355444464034512896 * q + r) / 340282366920938463463374607431768211456 = 18446744073709551616 * q + r / 340282366920938463463374607431768211456 := by omega
    rw [this]; omega
set_option maxHeartbeats 1000000 in
set_option maxRecDepth 100000 in
theorem more_calls (a d : Int) (w : World) (ha : U192 a) (d0 : 0 ≤ d) (d1 : d ≤ 9) :
    Calls Tryd.prog 62 #[.agg #[.int .u64 (MWide.w0 a), .int .u64 (MWide.w1 a), .int .u64 (MWide.w2 a)], .int .u64 d] w fun e w' => e = .returned (.tuple #[.agg #[.int .u64 (MWide.w0 (moreV a d)), .int .u64 (MWide.w1 (moreV a d)), .int .u64 (MWide.w2 (moreV a d))], .bool (moreOk a d)]) ∧ Bel w w' := by
  obtain ⟨c0, hc0⟩ : ∃ c, c = MWide.w0 a * 10 / 18446744073709551616 + (MWide.w0 a * 10 % 18446744073709551616 + d) / 18446744073709551616 := ⟨_, rfl⟩
  obtain ⟨c1, hc1⟩ : ∃ c, c = MWide.w1 a * 10 / 18446744073709551616 + (MWide.w1 a * 10 % 18446744073709551616 + c0) / 18446744073709551616 := ⟨_, rfl⟩
  obtain ⟨c2, hc2⟩ : ∃ c, c = MWide.w2 a * 10 / 18446744073709551616 + (MWide.w2 a * 10 % 18446744073709551616 + c1) / 18446744073709551616 := ⟨_, rfl⟩
  obtain ⟨k0, k1, k2, kz, v0, v1, v2⟩ := MDiv.more_words ha d0 d1 c0 c1 c2 hc0 hc1 hc2
  obtain ⟨m0, m1, m2⟩ := moreV_w a d
  have a0 := MWide.w0_64 a; have a1 := MWide.w1_64 a; have a2 := MWide.w2_64 a
  have h10 : W64 10 := ⟨by decide, by decide⟩
  have M0 := Lib.hid (fun w => Mul64_calls (MWide.w0 a) 10 a0 h10 w)
  have M1 := Lib.hid (fun w => Mul64_calls (MWide.w1 a) 10 a1 h10 w)
  have M2 := Lib.hid (fun w => Mul64_calls (MWide.w2 a) 10 a2 h10 w)
  have wd : ∀ x : Int, W64 (x % 18446744073709551616) := fun x => by unfold W64; omega
  have r0 := fun w => add64 (MWide.w0 a * 10 % 18446744073709551616) d 0 (wd _) ⟨by omega, by omega⟩ (Int.le_refl _) (by decide) w
  have r1 := fun w => add64 (MWide.w1 a * 10 % 18446744073709551616) c0 0 (wd _) ⟨by omega, by omega⟩ (Int.le_refl _) (by decide) w
  have r2 := fun w => add64 (MWide.w2 a * 10 % 18446744073709551616) c1 0 (wd _) ⟨by omega, by omega⟩ (Int.le_refl _) (by decide) w
  rw [Int.add_zero, v0, ← m0] at r0
  rw [Int.add_zero, v1, ← m1] at r1
  rw [Int.add_zero, v2, ← m2] at r2
  obtain ⟨l0, hl0⟩ : ∃ x, MWide.w0 a * 10 % 18446744073709551616 = x := ⟨_, rfl⟩
  obtain ⟨l1, hl1⟩ : ∃ x, MWide.w1 a * 10 % 18446744073709551616 = x := ⟨_, rfl⟩
  obtain ⟨l2, hl2⟩ : ∃ x, MWide.w2 a * 10 % 18446744073709551616 = x := ⟨_, rfl⟩
  obtain ⟨u0, hu0⟩ : ∃ x, MWide.w0 a * 10 / 18446744073709551616 = x := ⟨_, rfl⟩
  obtain ⟨u1, hu1⟩ : ∃ x, MWide.w1 a * 10 / 18446744073709551616 = x := ⟨_, rfl⟩
  obtain ⟨u2, hu2⟩ : ∃ x, MWide.w2 a * 10 / 18446744073709551616 = x := ⟨_, rfl⟩
  obtain ⟨e0, he0⟩ : ∃ x, (l0 + d) / 18446744073709551616 = x := ⟨_, rfl⟩
  obtain ⟨e1, he1⟩ : ∃ x, (l1 + c0) / 18446744073709551616 = x := ⟨_, rfl⟩
  obtain ⟨e2, he2⟩ : ∃ x, (l2 + c1) / 18446744073709551616 = x := ⟨_, rfl⟩
  rw [hl0] at r0 M0 hc0
  rw [hl1] at r1 M1 hc1
  rw [hl2] at r2 M2 hc2
  rw [hu0] at M0 hc0
  rw [hu1] at M1 hc1
  rw [hu2] at M2 hc2
  rw [he0] at r0 hc0
  rw [he1] at r1 hc1
  rw [he2] at r2 hc2
  have w0 : IntKind.u64.wrap (u0 + e0) = c0 := by rw [← hc0]; exact MOct.wraps_u64 _ (by omega) (by omega)
  have w1 : IntKind.u64.wrap (u1 + e1) = c1 := by rw [← hc1]; exact MOct.wraps_u64 _ (by omega) (by omega)
  have w2 : IntKind.u64.wrap (u2 + e2) = c2 := by rw [← hc2]; exact MOct.wraps_u64 _ (by omega) (by omega)
  have bz : (c2 == 0) = moreOk a d := by rw [Bool.eq_iff_iff, beq_iff_eq, kz]; unfold moreOk; rw [decide_eq_true_eq]
  obtain ⟨ok, hok⟩ : ∃ x, moreOk a d = x := ⟨_, rfl⟩
  rw [hok] at bz
  have HOK := Lib.hid hok
  clear ha hc0 hc1 hc2 k0 k1 k2 kz v0 v1 v2 m0 m1 m2 a0 a1 a2 h10 wd hl0 hl1 hl2 hu0 hu1 hu2 he0 he1 he2 hok
  go_enter Tryd.func62, Tryd.ntmps62
  go_wp2
  refine wp_loop_rounds 4 ?_
  rw [rounds_succ]
  go_wp2_with (go_at_call 61; refine (M0.out _).mono ?_; rintro e w' ⟨rfl, rfl⟩)
  rw [rounds_succ]
  go_wp2_with (go_at_call 61; refine (M1.out _).mono ?_; rintro e w' ⟨rfl, rfl⟩)
  rw [rounds_succ]
  go_wp2_with (go_at_call 61; refine (M2.out _).mono ?_; rintro e w' ⟨rfl, rfl⟩)
  rw [rounds_succ]
  go_wp2
  refine bodyPost_ret (v := .tuple #[.agg #[.int .u64 (MWide.w0 (moreV a d)), .int .u64 (MWide.w1 (moreV a d)), .int .u64 (MWide.w2 (moreV a d))], .bool (moreOk a d)]) ?_ rfl ⟨rfl, by repeat (first | exact Below.refl _ _ | refine Below.drew ?_ | refine Below.alloc ?_ (by simp <;> omega) _)⟩
  rw [HOK.out]
  simp [results, Tryd.results62, go_sem]

end Go.Proofs.YtakkifedcbhgfaaDoor.K
