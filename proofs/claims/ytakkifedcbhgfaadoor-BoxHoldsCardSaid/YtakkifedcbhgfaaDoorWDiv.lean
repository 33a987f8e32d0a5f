/- Go's way to part a number of two words, by 10^19. -/
import Derived.Test.YtakkifedcbhgfaaDoorBase
import Derived.Handy
import Derived.Test.YtakkifedcbhgfaaDoorWWide9
import Derived.Test.YtakkifedcbhgfaaDoorMDiv
namespace Go.Proofs.YtakkifedcbhgfaaDoor.K
open Go Go.RowKit Go.Proofs.YtakkifedcbhgfaaDoorW.PrintWords Go.Proofs.YtakkifedcbhgfaaDoorW.PrintLast Go.Proofs.YtakkifedcbhgfaaDoorW.PrintMore
set_option linter.unusedVariables false
set_option linter.unusedSimpArgs false
open Go.Proofs.YtakkifedcbhgfaaDoor.MWide (bt W64 U192 addV subV addOk subOk cry sumO bor difO cmpV width)
theorem lead_calls (w : World) : Calls Tryd.prog 104 #[.int .u64 10000000000000000000] w fun e w' => e = .returned (.int .i64 0) ∧ w = w' := by
  have hw : width 10000000000000000000 = 64 := MWide.width_eq (k := 63) (by decide) (by decide)
  have HL : Hid (∀ w, Calls Tryd.prog 79 #[.int .u64 10000000000000000000] w fun e w' => e = .returned (.int .i64 64) ∧ w = w') := Lib.hid (fun w => by
    have := Len64_calls 10000000000000000000 ⟨by decide, by decide⟩ w
    rw [hw] at this
    exact this)
  clear hw
  go_enter Tryd.func104, Tryd.ntmps104
  go_wp2_with (go_at_call 79; refine (HL.out _).mono ?_; rintro e w' ⟨rfl, rfl⟩)
  go_ret
  exact ⟨rfl, rfl⟩
set_option maxHeartbeats 1000000 in
set_option maxRecDepth 100000 in
theorem Div64_calls (hi lo : Int) (w : World) (h0 : 0 ≤ hi) (h1 : hi < 10000000000000000000) (hl : W64 lo) :
    Calls Tryd.prog 90 #[.int .u64 hi, .int .u64 lo, .int .u64 10000000000000000000] w fun e w' => e = .returned (.tuple #[.int .u64 ((hi * 18446744073709551616 + lo) / 10000000000000000000), .int .u64 ((hi * 18446744073709551616 + lo) % 10000000000000000000)]) ∧ Bel w w' := by
  have HL := Lib.hid lead_calls
  have hl0 := hl.1; have hl1 := hl.2
  clear hl
  by_cases hz : hi = 0
  · subst hz
    rw [Int.zero_mul, Int.zero_add]
    clear h0 h1
    go_enter Tryd.func90, Tryd.ntmps90
    go_wp2
    go_region
    go_wp2
    go_ret2
    exact ⟨rfl, Bel.drew w⟩
  · have hle : decide ((10000000000000000000 : Int) ≤ hi) = false := decide_eq_false (by omega)
    have hzz : (hi == 0) = false := by rw [beq_eq_false_iff_ne]; exact hz
    have e1 : Go.bits .and .u64 10000000000000000000 4294967295 = 2313682944 := bits_mask .u64 64 (by decide) MOct.wraps_u64 32 (by decide) 10000000000000000000 (by decide) (by decide)
    have e2 : lo / 18446744073709551616 = 0 := Int.ediv_eq_zero_of_lt hl0 hl1
    have e3 : Go.bits .or .u64 hi 0 = hi := by
      have := MOct.or_u64 hi 0 0 (by decide) h0 (by omega) (by omega) (by decide)
      simpa using this
    have e4 : Go.bits .and .u64 lo 4294967295 = lo % 4294967296 := bits_mask .u64 64 (by decide) MOct.wraps_u64 32 (by decide) lo hl0 hl1
    have hg := MDiv.guess_0 h0 h1 (u := lo / 4294967296) (by omega) (by omega)
    obtain ⟨b1, b2, b3, b4, b5, b6⟩ : 0 ≤ hi / 2328306436 ∧ hi / 2328306436 ≤ 4294967296 ∧ 0 ≤ hi - hi / 2328306436 * 2328306436 ∧ hi - hi / 2328306436 * 2328306436 < 4294967296 ∧ 0 ≤ lo / 4294967296 ∧ lo / 4294967296 < 4294967296 := by omega
    have HG := Lib.hid hg
    clear hg
    go_enter Tryd.func90, Tryd.ntmps90
    go_upto_block 0 with (go_at_call 104; refine (HL.out _).mono ?_; rintro e w' ⟨rfl, rfl⟩)
    obtain ⟨n, hn⟩ : ∃ n, n = hi * 4294967296 + lo / 4294967296 := ⟨_, rfl⟩
    rw [← hn] at HG
    obtain ⟨m, hm⟩ : ∃ m, m = n % 10000000000000000000 * 4294967296 + lo % 4294967296 := ⟨_, rfl⟩
    obtain ⟨x1, x2, x3, x4, x5, x6⟩ := MDiv.both h0 h1 hl0 hl1 hn hm
    have HX := Lib.hid (And.intro x1 x2)
    have HN := Lib.hid (And.intro x3 x4)
    have HN2 := Lib.hid (And.intro x5 x6)
    have HM : Hid (n % 4294967296 = lo / 4294967296) := Lib.hid (by rw [hn]; omega)
    have HM2 : Hid (m % 4294967296 = lo % 4294967296) := Lib.hid (by rw [hm]; omega)
    have HNd : Hid (n / 4294967296 = hi) := Lib.hid (by rw [hn]; omega)
    have Hm := Lib.hid hm
    clear hn hm x1 x2 x3 x4 x5 x6
    go_cut [15] (fun qv w' => qv = .int .u64 (n / 10000000000000000000) ∧ w = w')
    case first =>
      go_wp2_with fail
      go_loop [15, 16] (fun qv rv => ∃ q r : Int, qv = .int .u64 q ∧ rv = .int .u64 r ∧ Hid (MDiv.Guess n q r) ∧ 0 ≤ q ∧ q ≤ 4294967296 ∧ 0 ≤ r ∧ r < 4294967296) (fun qv _ => (intOf qv).toNat)
      case atStart => exact ⟨_, _, rfl, rfl, HG, b1, b2, b3, b4⟩
      case round =>
        obtain ⟨q, r, rfl, rfl, HGu, q0, q1, r0, r1⟩ := hrel
        by_cases hA : 4294967296 ≤ q
        · have hq1 : 1 ≤ q := by omega
          by_cases hR : 4294967296 ≤ r + 2328306436
          · have HE := Lib.hid (MDiv.guess_break HGu.out HN.out.2 (.inl hA) hR)
            go_wp2
            go_meet
            exact ⟨by rw [HE.out], rfl⟩
          · have HE := Lib.hid (MDiv.guess_next HGu.out HN.out.2 (.inl hA) (by omega))
            go_wp2
            go_round
            case rel => exact ⟨_, _, rfl, rfl, HE, by omega, by omega, by omega, by omega⟩
            case measure => simp [intOf]; omega
        · by_cases hB : 4294967296 * r + lo / 4294967296 < q * 2313682944
          · have hq1 : 1 ≤ q := by omega
            have hB2 : 4294967296 * r + n % 4294967296 < q * 2313682944 := by rw [HM.out]; exact hB
            by_cases hR : 4294967296 ≤ r + 2328306436
            · have HE := Lib.hid (MDiv.guess_break HGu.out HN.out.2 (.inr hB2) hR)
              clear hB2
              go_wp2
              go_meet
              exact ⟨by rw [HE.out], rfl⟩
            · have HE := Lib.hid (MDiv.guess_next HGu.out HN.out.2 (.inr hB2) (by omega))
              clear hB2
              go_wp2
              go_round
              case rel => exact ⟨_, _, rfl, rfl, HE, by omega, by omega, by omega, by omega⟩
              case measure => simp [intOf]; omega
          · have HE := Lib.hid (MDiv.guess_done HGu.out (by omega) (by rw [HM.out]; omega))
            go_wp2
            go_meet
            exact ⟨by rw [HE.out], rfl⟩
    case rest =>
      obtain ⟨rfl, rfl⟩ := hcut
      clear HG b1 b2 b3 b4
      have hs0 : 0 ≤ n % 10000000000000000000 := by omega
      have hs1 : n % 10000000000000000000 < 10000000000000000000 := by omega
      have hU : IntKind.u64.wrap (IntKind.u64.wrap (IntKind.u64.wrap (hi * 4294967296) + lo / 4294967296) - IntKind.u64.wrap (n / 10000000000000000000 * 10000000000000000000)) = n % 10000000000000000000 := by
        have := MDiv.half_rest n HN.out.1 HN.out.2
        rw [HNd.out, HM.out] at this
        rw [IntKind.wrap_u64, IntKind.wrap_u64, IntKind.wrap_u64, IntKind.wrap_u64]
        exact this
      have hg := MDiv.guess_0 hs0 hs1 (u := lo % 4294967296) (by omega) (by omega)
      obtain ⟨q1, hq1⟩ : ∃ q1, n / 10000000000000000000 = q1 := ⟨_, rfl⟩
      obtain ⟨s, hs⟩ : ∃ s, n % 10000000000000000000 = s := ⟨_, rfl⟩
      rw [hq1, hs] at hU
      rw [hs] at hs0 hs1 hg
      have Hm2 : Hid (m = s * 4294967296 + lo % 4294967296) := Lib.hid (by rw [Hm.out, hs])
      rw [← Hm2.out] at hg
      rw [hq1]
      have Hq1 := Lib.hid hq1
      have Hs := Lib.hid hs
      obtain ⟨b1, b2, b3, b4⟩ : 0 ≤ s / 2328306436 ∧ s / 2328306436 ≤ 4294967296 ∧ 0 ≤ s - s / 2328306436 * 2328306436 ∧ s - s / 2328306436 * 2328306436 < 4294967296 := by omega
      have HG := Lib.hid hg
      clear hg hq1 hs
      go_upto_block 2 with (fail)
      go_cut [18] (fun qv w' => qv = .int .u64 (m / 10000000000000000000) ∧ w = w')
      case first =>
        go_wp2_with fail
        go_loop [18, 16] (fun qv rv => ∃ q r : Int, qv = .int .u64 q ∧ rv = .int .u64 r ∧ Hid (MDiv.Guess m q r) ∧ 0 ≤ q ∧ q ≤ 4294967296 ∧ 0 ≤ r ∧ r < 4294967296) (fun qv _ => (intOf qv).toNat)
        case atStart => exact ⟨_, _, rfl, rfl, HG, b1, b2, b3, b4⟩
        case round =>
          obtain ⟨q, r, rfl, rfl, HGu, q0, q1, r0, r1⟩ := hrel
          by_cases hA : 4294967296 ≤ q
          · have hq1 : 1 ≤ q := by omega
            by_cases hR : 4294967296 ≤ r + 2328306436
            · have HE := Lib.hid (MDiv.guess_break HGu.out HN2.out.2 (.inl hA) hR)
              go_wp2
              go_meet
              exact ⟨by rw [HE.out], rfl⟩
            · have HE := Lib.hid (MDiv.guess_next HGu.out HN2.out.2 (.inl hA) (by omega))
              go_wp2
              go_round
              case rel => exact ⟨_, _, rfl, rfl, HE, by omega, by omega, by omega, by omega⟩
              case measure => simp [intOf]; omega
          · by_cases hB : 4294967296 * r + lo % 4294967296 < q * 2313682944
            · have hq1 : 1 ≤ q := by omega
              have hB2 : 4294967296 * r + m % 4294967296 < q * 2313682944 := by rw [HM2.out]; exact hB
              by_cases hR : 4294967296 ≤ r + 2328306436
              · have HE := Lib.hid (MDiv.guess_break HGu.out HN2.out.2 (.inr hB2) hR)
                clear hB2
                go_wp2
                go_meet
                exact ⟨by rw [HE.out], rfl⟩
              · have HE := Lib.hid (MDiv.guess_next HGu.out HN2.out.2 (.inr hB2) (by omega))
                clear hB2
                go_wp2
                go_round
                case rel => exact ⟨_, _, rfl, rfl, HE, by omega, by omega, by omega, by omega⟩
                case measure => simp [intOf]; omega
            · have HE := Lib.hid (MDiv.guess_done HGu.out (by omega) (by rw [HM2.out]; omega))
              go_wp2
              go_meet
              exact ⟨by rw [HE.out], rfl⟩
      case rest =>
        obtain ⟨rfl, rfl⟩ := hcut
        clear HG b1 b2 b3 b4
        go_wp2
        go_ret2
        refine ⟨?_, Bel.refl _⟩
        obtain ⟨x1, x2⟩ := HX.out
        have hA : IntKind.u64.wrap (IntKind.u64.wrap (q1 * 4294967296) + m / 10000000000000000000) = (hi * 18446744073709551616 + lo) / 10000000000000000000 := by
          rw [Hq1.out] at x1
          rw [IntKind.wrap_u64, IntKind.wrap_u64, ← x1]
          have h1 := HN.out.1; have h2 := HN.out.2; have h3 := HN2.out.1; have h4 := HN2.out.2; have h5 := Hq1.out
          omega
        have hB : IntKind.u64.wrap (IntKind.u64.wrap (IntKind.u64.wrap (s * 4294967296) + lo % 4294967296) - IntKind.u64.wrap (m / 10000000000000000000 * 10000000000000000000)) = (hi * 18446744073709551616 + lo) % 10000000000000000000 := by
          have := MDiv.half_rest m HN2.out.1 HN2.out.2
          have e5 : m / 4294967296 = s := by rw [Hm2.out]; omega
          rw [e5, HM2.out] at this
          rw [IntKind.wrap_u64, IntKind.wrap_u64, IntKind.wrap_u64, IntKind.wrap_u64, ← x2]
          exact this
        rw [← hA, ← hB]
        rfl

end Go.Proofs.YtakkifedcbhgfaaDoor.K
