/- The walks of layer 2 without sources: what Size, Var, Put, Get and Take come to, of the program and of the reference. -/
import Derived.Test.YtlfcgicobhalmaaBase
namespace Go.Proofs.Ytlfcgicobhalmaa.K
open Go Go.RowKit Go.Proofs.YtlfcgicobhalmaaW.PrintWords Go.Proofs.YtlfcgicobhalmaaW.PrintLast Go.Proofs.YtlfcgicobhalmaaW.PrintMore
set_option linter.unusedVariables false
set_option linter.unusedSimpArgs false
open Go.Proofs.Ytlfcgicobhalmaa.MOct (W V tk sz vr num head getV le be many putL)

theorem octet_Size_calls (n : Int) (w : World) (h0 : 0 ≤ n) (h1 : n < 18446744073709551616) :
    Calls Try.prog 20 #[.int .u64 n] w fun e w' => e = .returned (.int .i64 (sz n)) ∧ w = w' := by
  go_enter Try.func20, Try.ntmps20
  go_wp2_with fail
  go_loop [3] (fun i => ∃ k : Nat, 1 ≤ k ∧ k ≤ 9 ∧ i = .int .i64 k ∧ Hid (128 ^ (k - 1) ≤ n ∨ k = 1)) (fun i => 9 - (intOf i).toNat)
  case atStart => exact ⟨1, by omega, by omega, rfl, Lib.hid (.inr rfl)⟩
  case round =>
    obtain ⟨k, hk1, hk9, rfl, HK⟩ := hrel
    by_cases hlt : k < 9
    · have hs := MOct.shr7 n k (by omega)
      rw [show (7 * (k : Int)).toNat = 7 * k by omega] at hs
      by_cases hq : n < 128 ^ k
      · have b : (n / 2 ^ (7 * k) == 0) = true := by rw [hs, beq_iff_eq]; exact Int.ediv_eq_zero_of_lt h0 hq
        have hf := MOct.sz_at n k hk1 (by omega) HK.out hq
        have HF := Lib.hid hf
        clear hf hs hq
        go_wp2
        go_ret
        exact ⟨by rw [HF.out]; rfl, rfl⟩
      · have b : (n / 2 ^ (7 * k) == 0) = false := by
          rw [hs, beq_eq_false_iff_ne]
          have h128 : (0 : Int) < 128 ^ k := Int.pow_pos (by decide)
          have := Int.le_ediv_of_mul_le h128 (show 1 * 128 ^ k ≤ n by omega)
          omega
        have HQ := Lib.hid hq
        clear hs hq
        go_wp2
        go_round
        case rel => exact ⟨k + 1, by omega, by omega, by go_num, Lib.hid (.inl (by have := HQ.out; simpa using this))⟩
        case measure => (simp [intOf] <;> omega)
    · have h9 : k = 9 := by omega
      have hf := MOct.sz_top n (by rcases HK.out with h | h; · rw [h9] at h; exact h
                                   · omega)
      have HF := Lib.hid hf
      clear hf h9
      go_wp2
      go_ret
      exact ⟨by rw [HF.out]; rfl, rfl⟩

theorem ref02_Size_calls (n : Int) (w : World) (h0 : 0 ≤ n) (h1 : n < 18446744073709551616) :
    Calls Try.prog 21 #[.int .u64 n] w fun e w' => e = .returned (.int .i64 (sz n)) ∧ w = w' := by
  go_enter Try.func21, Try.ntmps21
  go_wp2_with fail
  go_loop [3] (fun i => ∃ k : Nat, 1 ≤ k ∧ k ≤ 9 ∧ i = .int .i64 k ∧ Hid (128 ^ (k - 1) ≤ n ∨ k = 1)) (fun i => 9 - (intOf i).toNat)
  case atStart => exact ⟨1, by omega, by omega, rfl, Lib.hid (.inr rfl)⟩
  case round =>
    obtain ⟨k, hk1, hk9, rfl, HK⟩ := hrel
    by_cases hlt : k < 9
    · have hs := MOct.shr7 n k (by omega)
      rw [show (7 * (k : Int)).toNat = 7 * k by omega] at hs
      have h128 : (0 : Int) < 128 ^ k := Int.pow_pos (by decide)
      by_cases hq : n < 128 ^ k
      · have hf := MOct.sz_at n k hk1 (by omega) HK.out hq
        have HF := Lib.hid hf
        have hz : n / 2 ^ (7 * k) = 0 := by rw [hs]; exact Int.ediv_eq_zero_of_lt h0 hq
        by_cases h8 : k < 8
        · have b : decide (n / 2 ^ (7 * k) > 0) = false := by rw [hz]; rfl
          have b1 : ((k : Int) == 8) = false := by rw [beq_eq_false_iff_ne]; omega
          clear hf hs hq hz
          go_wp2
          all_goals (go_ret; exact ⟨by rw [HF.out]; rfl, rfl⟩)
        · have e8 : k = 8 := by omega
          have b : decide (n / 72057594037927936 > 0) = false := by
            subst e8
            simp at hq ⊢
            omega
          have b1 : ((k : Int) == 8) = true := by rw [beq_iff_eq]; omega
          clear hf hs hq hz e8
          go_wp2
          all_goals (go_ret; exact ⟨by rw [HF.out]; rfl, rfl⟩)
      · have HQ := Lib.hid hq
        have hz : n / 2 ^ (7 * k) > 0 := by
          rw [hs]
          have := Int.le_ediv_of_mul_le h128 (show 1 * 128 ^ k ≤ n by omega)
          omega
        by_cases h8 : k < 8
        · have b : decide (n / 2 ^ (7 * k) > 0) = true := decide_eq_true hz
          clear hs hq hz h128
          go_wp2
          go_round
          case rel => exact ⟨k + 1, by omega, by omega, by go_num, Lib.hid (.inl (by have := HQ.out; simpa using this))⟩
          case measure => (simp [intOf] <;> omega)
        · have e8 : k = 8 := by omega
          have b : decide (n / 72057594037927936 > 0) = true := by
            subst e8
            simp at hq ⊢
            omega
          have b1 : ((k : Int) == 8) = true := by rw [beq_iff_eq]; omega
          clear hs hq hz e8 h128
          go_wp2
          go_round
          case rel => exact ⟨k + 1, by omega, by omega, by go_num, Lib.hid (.inl (by have := HQ.out; simpa using this))⟩
          case measure => (simp [intOf] <;> omega)
    · have h9 : k = 9 := by omega
      have hf := MOct.sz_top n (by rcases HK.out with h | h; · rw [h9] at h; exact h
                                   · omega)
      have e9 : ((9 : Nat) : Int) = 9 := rfl
      have HF := Lib.hid hf
      have H9 := Lib.hid h9
      clear hf h9 e9
      go_wp2
      go_ret
      exact ⟨by rw [HF.out, H9.out]; rfl, rfl⟩

set_option maxHeartbeats 1000000 in
theorem octet_Take_calls (A0 : Option Addr) (c0 : Nat) (l0 : List Int) (w : World) (hr0 : CB w A0 l0) (hc0 : l0.length ≤ c0) (hb : bytesOk l0) :
    Calls Try.prog 12 #[.slice A0 l0.length c0] w fun e w' => e = .returned (.tuple #[.int .u64 (MOct.take l0).1, .int .i64 (MOct.take l0).2]) ∧ w = w' := by
  have H9 := Lib.hid hb
  obtain ⟨j, hj, hj0, hj9, hj8⟩ : ∃ j : Nat, (if 9 < (l0.length : Int) then 9 else (l0.length : Int)) = (j : Int) ∧ j ≤ l0.length ∧ j ≤ 9 ∧ (j < l0.length → j = 9) := ⟨min 9 l0.length, by omega, by omega, by omega, by omega⟩
  have HJ := Lib.hid hj8
  have HR := Lib.hid hr0
  clear hb hj8 hr0
  go_enter Try.func12, Try.ntmps12
  go_wp2_with fail
  go_loop [4, 13] (fun n i => ∃ (m r : List Int), n = .int .u64 (V m) ∧ i = .int .i64 (m.length : Nat) ∧ Hid (l0 = m ++ r ∧ (∀ x ∈ m, 128 ≤ x ∧ x < 256) ∧ m.length ≤ j ∧ m.length ≤ 8 ∧ tk (V m) m.length r = MOct.take l0)) (fun _ i => 9 - (intOf i).toNat)
  case atStart => exact ⟨[], l0, rfl, rfl, Lib.hid ⟨rfl, by simp, by simp, by simp, rfl⟩⟩
  case round =>
    obtain ⟨m, r, rfl, rfl, HM⟩ := hrel
    obtain ⟨he, hm, hml, hml7, ht⟩ := HM.out
    have hV := MOct.V_range m
    by_cases hlt : m.length < j
    · cases r with
      | nil => exact absurd he (by rintro rfl; simp at hj0; omega)
      | cons c cs =>
        have hc := H9.out c (by rw [he]; simp)
        obtain ⟨ad, e1, hx⟩ := Kd.at_int HR.out (m.length : Int) (by omega) (by omega)
        have hrd : rd l0 m.length = c := by rw [he]; simp [rd]
        rw [hrd, Int.toNat_natCast] at hx
        subst e1
        have HE := Lib.hid he
        have HT := Lib.hid ht
        clear he ht hrd hm
        by_cases h8 : m.length = 8
        · have b1 : ((m.length : Int) == 8) = true := by simp [h8]
          have h8a : 8 ≤ m.length := by omega
          rw [h8] at hV
          have e : Go.bits .or .u64 (V m * 256) c = V m * 256 + c := MOct.or_u64 (V m) c 8 (by omega) (by omega) (by omega) (by omega) (by omega)
          have hV1 : 0 ≤ V m * 256 + c ∧ V m * 256 + c < 18446744073709551616 := by omega
          have H8 := Lib.hid h8
          clear h8
          by_cases hs : sz (V m * 256 + c) = 9
          · have b2 : (sz (V m * 256 + c) != (m.length : Int) + 1) = false := by simp [hs, H8.out]
            have HS := Lib.hid hs
            clear hs
            go_wp2_with (go_at_call 20; refine (octet_Size_calls _ _ hV1.1 hV1.2).mono ?_; rintro e w' ⟨rfl, rfl⟩)
            go_ret2
            refine ⟨?_, rfl⟩
            rw [← HT.out, tk, if_pos (by rw [H8.out]; rfl), if_pos HS.out, H8.out]
            rfl
          · have b2 : (sz (V m * 256 + c) != (m.length : Int) + 1) = true := by simp [hs, H8.out]
            have HS := Lib.hid hs
            clear hs
            go_wp2_with (go_at_call 20; refine (octet_Size_calls _ _ hV1.1 hV1.2).mono ?_; rintro e w' ⟨rfl, rfl⟩)
            go_ret2
            refine ⟨?_, rfl⟩
            rw [← HT.out, tk, if_pos (by rw [H8.out]; rfl), if_neg HS.out]
            rfl
        · have b1 : ((m.length : Int) == 8) = false := by simp; omega
          have n8 : ¬ ((m.length : Int) = 8) := by omega
          have N8 := Lib.hid n8
          have h7 : m.length ≤ 7 := by omega
          clear h8 n8
          have hV2 : V m < 128 ^ 7 := Int.lt_of_lt_of_le hV.2 (by exact_mod_cast Nat.pow_le_pow_right (by omega) h7)
          have hV3 : 0 ≤ V m ∧ V m < 562949953421312 := by omega
          clear hV hV2
          have e1 : Go.bits .andNot .u8 c 128 = c % 128 := MOct.andNot128 c (by omega) (by omega)
          have e : Go.bits .or .u64 (V m * 128) (c % 128) = V m * 128 + c % 128 := MOct.or_u64 (V m) (c % 128) 7 (by omega) (by omega) (by omega) (by omega) (by omega)
          have hV1 : 0 ≤ V m * 128 + c % 128 ∧ V m * 128 + c % 128 < 18446744073709551616 := by omega
          by_cases hc8 : c < 128
          · by_cases hs : sz (V m * 128 + c % 128) = m.length + 1
            · have b2 : (sz (V m * 128 + c % 128) != (m.length : Int) + 1) = false := by simp [hs]
              have HS := Lib.hid hs
              clear hs
              go_wp2_with (go_at_call 20; refine (octet_Size_calls _ _ hV1.1 hV1.2).mono ?_; rintro e w' ⟨rfl, rfl⟩)
              go_ret2
              refine ⟨?_, rfl⟩
              rw [← HT.out, tk, if_neg N8.out, if_pos hc8, if_pos HS.out]
              rfl
            · have b2 : (sz (V m * 128 + c % 128) != (m.length : Int) + 1) = true := by simp [hs]
              have HS := Lib.hid hs
              clear hs
              go_wp2_with (go_at_call 20; refine (octet_Size_calls _ _ hV1.1 hV1.2).mono ?_; rintro e w' ⟨rfl, rfl⟩)
              go_ret2
              refine ⟨?_, rfl⟩
              rw [← HT.out, tk, if_neg N8.out, if_pos hc8, if_neg HS.out]
              rfl
          · go_wp2
            go_round
            case rel =>
              refine ⟨m ++ [c], cs, ?_, ?_, Lib.hid ⟨?_, ?_, ?_, ?_, ?_⟩⟩
              · rw [MOct.V_snoc]
              · simp
              · rw [HE.out]; simp
              · intro x hx
                simp only [List.mem_append, List.mem_singleton] at hx
                rcases hx with hx | rfl
                · exact HM.out.2.1 x hx
                · omega
              · simp; omega
              · simp; omega
              · rw [← HT.out, MOct.V_snoc]
                conv => rhs; rw [tk, if_neg N8.out, if_neg hc8]
                simp
            case measure => (simp [intOf] <;> omega)
    · have hfin : MOct.take l0 = (0, 0) := by
        cases r with
        | nil => rw [← ht]; rfl
        | cons c cs =>
          have := HJ.out (by rw [he]; simp; omega)
          omega
      have HF := Lib.hid hfin
      clear hfin he ht
      go_wp2
      go_ret2
      refine ⟨?_, rfl⟩
      rw [HF.out]
      rfl

set_option maxHeartbeats 1000000 in
theorem octet_Get_calls (A0 : Option Addr) (c0 : Nat) (l0 : List Int) (size : Int) (little : Bool) (w : World) (hr0 : CB w A0 l0) (hc0 : l0.length ≤ c0) (hb : bytesOk l0) :
    Calls Try.prog 14 #[.slice A0 l0.length c0, .int .i64 size, .bool little] w fun e w' => e = .returned (.tuple #[.int .u64 (getV l0 size little).1, .bool (getV l0 size little).2]) ∧ w = w' := by
  have HR := Lib.hid hr0
  have HK := Lib.hid hb
  by_cases hbad : size < 1 ∨ size > 8 ∨ (l0.length : Int) < size
  · have hf : getV l0 size little = (0, false) := by unfold getV; rw [if_pos hbad]
    have HF := Lib.hid hf
    have HB := Lib.hid hbad
    clear hr0 hb hf hbad
    by_cases k1 : size < 1
    · go_enter Try.func14, Try.ntmps14
      go_wp2
      go_ret2
      exact ⟨by rw [HF.out]; rfl, rfl⟩
    · by_cases k2 : 8 < size
      · go_enter Try.func14, Try.ntmps14
        go_wp2
        go_ret2
        exact ⟨by rw [HF.out]; rfl, rfl⟩
      · have k3 : (l0.length : Int) < size := by have := HB.out; omega
        go_enter Try.func14, Try.ntmps14
        go_wp2
        go_ret2
        exact ⟨by rw [HF.out]; rfl, rfl⟩
  · obtain ⟨m, rfl⟩ : ∃ m : Nat, size = m := ⟨size.toNat, by omega⟩
    have hf : getV l0 m little = (num (head l0 m little), true) := by unfold getV; rw [if_neg hbad, Int.toNat_natCast]
    have HF := Lib.hid hf
    have hl := MOct.head_length l0 m little (by omega)
    have HL := Lib.hid hl
    have HG := Lib.hid (MOct.head_range l0 m little hb)
    have k1 : 1 ≤ m := by omega
    have k2 : m ≤ 8 := by omega
    have k3 : m ≤ l0.length := by omega
    clear hr0 hb hf hbad hl
    go_enter Try.func14, Try.ntmps14
    go_wp2_with fail
    go_loop [8, 24] (fun n i => ∃ k : Nat, k ≤ m ∧ n = .int .u64 (num ((head l0 m little).take k)) ∧ i = .int .i64 k) (fun _ i => m - (intOf i).toNat)
    case atStart => exact ⟨0, by omega, rfl, rfl⟩
    case round =>
      obtain ⟨k, hkm, rfl, rfl⟩ := hrel
      by_cases hlt : k < m
      · have hlt2 : k < (head l0 m little).length := by rw [HL.out]; exact hlt
        have hsn : (head l0 m little).take (k + 1) = (head l0 m little).take k ++ [(head l0 m little).getD k 0] := MOct.take_snoc _ _ hlt2
        have hc := HG.out _ (MOct.getD_mem _ _ hlt2)
        have hN3 := MOct.num_lt ((head l0 m little).take k) (fun x hx => HG.out x (List.mem_of_mem_take hx)) (by rw [List.length_take]; omega)
        have hnum := MOct.num_snoc ((head l0 m little).take k) ((head l0 m little).getD k 0)
        rw [← hsn] at hnum
        have HN := Lib.hid hnum
        have e : Go.bits .or .u64 (num ((head l0 m little).take k) * 256) ((head l0 m little).getD k 0) = num ((head l0 m little).take k) * 256 + (head l0 m little).getD k 0 := MOct.or_u64 _ _ 8 (by omega) (by omega) (by omega) (by omega) (by omega)
        have hget := MOct.head_get l0 m little k k3 hlt
        clear hsn hnum
        cases little with
        | true =>
          obtain ⟨ad, rfl, hx⟩ := HR.out.at_ (m - 1 - k) (by omega)
          simp only [if_true] at hget
          rw [← hget] at hx
          have hi : ((m : Int) - 1 - (k : Int)).toNat = m - 1 - k := by omega
          clear hget
          generalize (head l0 m true).getD k 0 = c at *
          generalize num (List.take k (head l0 m true)) = N at *
          go_wp2_with fail
          go_round
          case rel => exact ⟨k + 1, by omega, by rw [HN.out], by go_num⟩
          case measure => (simp [intOf] <;> omega)
        | false =>
          obtain ⟨ad, rfl, hx⟩ := HR.out.at_ k (by omega)
          simp only [Bool.false_eq_true, if_false] at hget
          rw [← hget] at hx
          clear hget
          generalize (head l0 m false).getD k 0 = c at *
          generalize num (List.take k (head l0 m false)) = N at *
          go_wp2_with fail
          go_round
          case rel => exact ⟨k + 1, by omega, by rw [HN.out], by go_num⟩
          case measure => (simp [intOf] <;> omega)
      · have hk : k = m := by omega
        have hfin : num ((head l0 m little).take k) = num (head l0 m little) := by rw [List.take_of_length_le (by rw [HL.out]; omega)]
        have HN := Lib.hid hfin
        clear hk hfin
        go_wp2
        go_ret2
        exact ⟨by rw [HF.out, ← HN.out]; rfl, rfl⟩

set_option maxHeartbeats 1000000 in
theorem ref02_Get_calls (A0 : Option Addr) (c0 : Nat) (l0 : List Int) (size : Int) (little : Bool) (w : World) (hr0 : CB w A0 l0) (hc0 : l0.length ≤ c0) (hb : bytesOk l0) :
    Calls Try.prog 15 #[.slice A0 l0.length c0, .int .i64 size, .bool little] w fun e w' => e = .returned (.tuple #[.int .u64 (getV l0 size little).1, .bool (getV l0 size little).2]) ∧ w = w' := by
  have HR := Lib.hid hr0
  have HK := Lib.hid hb
  by_cases hbad : size < 1 ∨ size > 8 ∨ (l0.length : Int) < size
  · have hf : getV l0 size little = (0, false) := by unfold getV; rw [if_pos hbad]
    have HF := Lib.hid hf
    have HB := Lib.hid hbad
    clear hr0 hb hf hbad
    by_cases k1 : size < 1
    · go_enter Try.func15, Try.ntmps15
      go_wp2
      go_ret2
      exact ⟨by rw [HF.out]; rfl, rfl⟩
    · by_cases k2 : 8 < size
      · go_enter Try.func15, Try.ntmps15
        go_wp2
        go_ret2
        exact ⟨by rw [HF.out]; rfl, rfl⟩
      · have k3 : (l0.length : Int) < size := by have := HB.out; omega
        go_enter Try.func15, Try.ntmps15
        go_wp2
        go_ret2
        exact ⟨by rw [HF.out]; rfl, rfl⟩
  · obtain ⟨m, rfl⟩ : ∃ m : Nat, size = m := ⟨size.toNat, by omega⟩
    have hf : getV l0 m little = (num (head l0 m little), true) := by unfold getV; rw [if_neg hbad, Int.toNat_natCast]
    have HF := Lib.hid hf
    have hl := MOct.head_length l0 m little (by omega)
    have HL := Lib.hid hl
    have HG := Lib.hid (MOct.head_range l0 m little hb)
    have k1 : 1 ≤ m := by omega
    have k2 : m ≤ 8 := by omega
    have k3 : m ≤ l0.length := by omega
    clear hr0 hb hf hbad hl
    go_enter Try.func15, Try.ntmps15
    go_wp2_with fail
    go_loop [8, 9] (fun n i => ∃ k : Nat, k ≤ m ∧ n = .int .u64 (num ((head l0 m little).take k)) ∧ i = .int .i64 k) (fun _ i => m - (intOf i).toNat)
    case atStart => exact ⟨0, by omega, rfl, rfl⟩
    case round =>
      obtain ⟨k, hkm, rfl, rfl⟩ := hrel
      by_cases hlt : k < m
      · have hlt2 : k < (head l0 m little).length := by rw [HL.out]; exact hlt
        have hsn : (head l0 m little).take (k + 1) = (head l0 m little).take k ++ [(head l0 m little).getD k 0] := MOct.take_snoc _ _ hlt2
        have hc := HG.out _ (MOct.getD_mem _ _ hlt2)
        have hN3 := MOct.num_lt ((head l0 m little).take k) (fun x hx => HG.out x (List.mem_of_mem_take hx)) (by rw [List.length_take]; omega)
        have hnum := MOct.num_snoc ((head l0 m little).take k) ((head l0 m little).getD k 0)
        rw [← hsn] at hnum
        have HN := Lib.hid hnum
        have e : Go.bits .or .u64 (num ((head l0 m little).take k) * 256) ((head l0 m little).getD k 0) = num ((head l0 m little).take k) * 256 + (head l0 m little).getD k 0 := MOct.or_u64 _ _ 8 (by omega) (by omega) (by omega) (by omega) (by omega)
        have hget := MOct.head_get l0 m little k k3 hlt
        clear hsn hnum
        cases little with
        | true =>
          obtain ⟨ad, rfl, hx⟩ := HR.out.at_ (m - 1 - k) (by omega)
          simp only [if_true] at hget
          rw [← hget] at hx
          have hi : ((m : Int) - 1 - (k : Int)).toNat = m - 1 - k := by omega
          clear hget
          generalize (head l0 m true).getD k 0 = c at *
          generalize num (List.take k (head l0 m true)) = N at *
          go_wp2_with fail
          go_round
          case rel => exact ⟨k + 1, by omega, by rw [HN.out], by go_num⟩
          case measure => (simp [intOf] <;> omega)
        | false =>
          obtain ⟨ad, rfl, hx⟩ := HR.out.at_ k (by omega)
          simp only [Bool.false_eq_true, if_false] at hget
          rw [← hget] at hx
          clear hget
          generalize (head l0 m false).getD k 0 = c at *
          generalize num (List.take k (head l0 m false)) = N at *
          go_wp2_with fail
          go_round
          case rel => exact ⟨k + 1, by omega, by rw [HN.out], by go_num⟩
          case measure => (simp [intOf] <;> omega)
      · have hk : k = m := by omega
        have hfin : num ((head l0 m little).take k) = num (head l0 m little) := by rw [List.take_of_length_le (by rw [HL.out]; omega)]
        have HN := Lib.hid hfin
        clear hk hfin
        go_wp2
        go_ret2
        exact ⟨by rw [HF.out, ← HN.out]; rfl, rfl⟩

theorem clone_calls (A : Option Addr) (c : Nat) (l : List Int) (w : World) (h : CB w A l) (hc : l.length ≤ c) (hl : l.length < 140737488355328) :
    Calls Try.prog 54 #[.slice A l.length c] w fun e w' => ∃ v, e = .returned v ∧ RB w w' v l ∧ Below w.heap.size w w' := by
  have qT : ∀ (w : World) (a : Option Addr) (n c n' c' : Nat), (binOp .eql 23 (.slice a n c) (.slice none n' c')).run Try.prog w = .ok (.bool a.isNone) w := fun w a n c n' c' => Lib.run_eql_slice_nil w _ _ a n c n' c' Try.underlying23
  cases A with
  | none =>
    obtain rfl : l = [] := by
      cases l with
      | nil => rfl
      | cons a l =>
        obtain ⟨_, hh, _⟩ := h.2.2 (by simp)
        cases hh
    clear h
    go_enter Try.func54, Try.ntmps54
    go_wp2
    go_ret
    exact ⟨_, rfl, RB.nil _ _, Below.refl _ _⟩
  | some a =>
    have H := Lib.hid h
    clear h
    go_enter Try.func54, Try.ntmps54
    go_wp2_with (at_builtin; refine appN (w0 := w) _ _ rfl rfl _ [] l (some a) c rfl rfl (RB.lit0 (Nat.le_refl _)) (H.out.alloc _) ((Below.refl _ _).alloc (Nat.le_refl _) _) (by simpa using hl) ?_; intro v1 w1 HO HB)
    go_ret
    exact ⟨_, rfl, HO.out, HB.out⟩

set_option maxHeartbeats 1000000 in
theorem octet_Var_calls (A : Option Addr) (c : Nat) (l : List Int) (n : Int) (w : World) (h : CB w A l) (hc : l.length ≤ c) (hl : l.length + 9 < 140737488355328) (h0 : 0 ≤ n) (h1 : n < 18446744073709551616) :
    Calls Try.prog 11 #[.slice A l.length c, .int .u64 n] w fun e w' => ∃ v, e = .returned v ∧ RB w w' v (l ++ vr n) ∧ Below w.heap.size w w' := by
  have H := Lib.hid h
  have hsz := MOct.sz_range n
  have e8 : Go.bits .andNot .u8 (n % 256) 128 = n % 128 := by rw [MOct.andNot128 _ (by omega) (by omega)]; omega
  clear h
  by_cases h9 : sz n = 9
  · have hv : vr n = W (n / 2 / 128) 8 ++ [n % 256] := by unfold vr; rw [if_pos h9, show n / 2 / 128 = n / 256 by omega]
    have HV := Lib.hid hv
    have b9 : (sz n == 9) = true := by rw [beq_iff_eq]; exact h9
    have hki : sz n - 1 = ((8 : Nat) : Int) := by omega
    have HKI := Lib.hid hki
    have hn : 0 ≤ n / 2 ∧ n / 2 < 18446744073709551616 := by omega
    clear hv h9 hki
    go_enter Try.func11, Try.ntmps11
    go_wp2_with (first
      | (go_at_call 54; refine (clone_calls _ _ _ _ H.out hc (by omega)).mono ?_; rintro e w1 ⟨v1, rfl, ho1, hb1⟩; have HO1 := Lib.hid ho1; have HB1 := Lib.hid hb1; clear ho1 hb1)
      | (go_at_call 20; refine (octet_Size_calls _ _ h0 h1).mono ?_; rintro e w1 ⟨rfl, rfl⟩))
    go_loopw [5, 8] (fun out i wr => ∃ (k : Nat) (X : List Int), i = .int .i64 k ∧ k ≤ 8 ∧ Hid (RB w wr out (l ++ X)) ∧ Hid (Below w.heap.size w wr) ∧ Hid (X ++ W ((n / 2) / 128) k = W ((n / 2) / 128) 8) ∧ X.length + k ≤ 8) (fun _ i _ => (intOf i).toNat)
    case atStart => exact ⟨8, [], by rw [HKI.out], by omega, by simpa using HO1, HB1, Lib.hid rfl, by simp⟩
    case round =>
      obtain ⟨k, X, rfl, hk8, HO, HB, HX, hXl⟩ := hrel
      have hlen : (l ++ X).length < 140737488355328 := by rw [List.length_append]; omega
      have HLen := Lib.hid hlen
      clear hlen
      by_cases hlt : 0 < k
      · obtain ⟨j, rfl⟩ : ∃ j, k = j + 1 := ⟨k - 1, by omega⟩
        have hsh := MOct.shr7 (n / 2) (j + 1) (by omega)
        rw [show (7 * ((j + 1 : Nat) : Int)).toNat = 7 * (j + 1) by omega] at hsh
        have hor := MOct.or128 ((n / 2) / 2 ^ (7 * (j + 1)) % 256) (by omega) (by omega)
        rw [Int.emod_emod_of_dvd _ (by decide)] at hor
        have hW : W ((n / 2) / 128) (j + 1) = ((n / 2) / 2 ^ (7 * (j + 1)) % 128 + 128) :: W ((n / 2) / 128) j := by
          rw [MOct.W_head, hsh, Int.ediv_ediv_of_nonneg (by decide), show (128 : Int) * 128 ^ j = 128 ^ (j + 1) by rw [Int.pow_succ, Int.mul_comm]]
        have HW := Lib.hid hW
        have HOR := Lib.hid hor
        clear hW hsh hor
        go_wp2_with (at_builtin; refine app1 (w0 := w) _ _ rfl rfl u5 (l ++ X) _ rfl rfl HO.out HB.out HLen.out ?_; intro v2 w2 HO2 HB2)
        go_roundw
        case rel =>
          have ho2 := HO2.out
          rw [HOR.out] at ho2
          refine ⟨j, X ++ [n / 2 / 2 ^ (7 * (j + 1)) % 128 + 128], by go_num, by omega, Lib.hid (by simpa [List.append_assoc] using ho2), HB2, Lib.hid ?_, by rw [List.length_append]; simp; omega⟩
          rw [← HX.out, HW.out]; simp
        case measure => (simp [intOf] <;> omega)
      · have hk0 : k = 0 := by omega
        have hX : X = W ((n / 2) / 128) 8 := by have := HX.out; rw [hk0] at this; simpa [W] using this
        have HX2 := Lib.hid hX
        clear hk0 hX
        go_wp2_with (at_builtin; refine app1 (w0 := w) _ _ rfl rfl u5 (l ++ X) _ rfl rfl HO.out HB.out HLen.out ?_; intro v2 w2 HO2 HB2)
        go_ret
        refine ⟨_, rfl, ?_, HB2.out⟩
        have := HO2.out
        rw [HV.out, ← HX2.out]
        simpa [List.append_assoc] using this
  · obtain ⟨K, hK, hK8⟩ : ∃ K : Nat, K = (sz n).toNat - 1 ∧ K ≤ 8 := ⟨_, rfl, by omega⟩
    have hv : vr n = W (n / 128) K ++ [n % 128] := by unfold vr; rw [if_neg h9, hK]
    have HV := Lib.hid hv
    have b9 : (sz n == 9) = false := by rw [beq_eq_false_iff_ne]; exact h9
    have hki : sz n - 1 = (K : Int) := by omega
    have HKI := Lib.hid hki
    clear hv h9 hki hK
    go_enter Try.func11, Try.ntmps11
    go_wp2_with (first
      | (go_at_call 54; refine (clone_calls _ _ _ _ H.out hc (by omega)).mono ?_; rintro e w1 ⟨v1, rfl, ho1, hb1⟩; have HO1 := Lib.hid ho1; have HB1 := Lib.hid hb1; clear ho1 hb1)
      | (go_at_call 20; refine (octet_Size_calls _ _ h0 h1).mono ?_; rintro e w1 ⟨rfl, rfl⟩))
    go_loopw [5, 8] (fun out i wr => ∃ (k : Nat) (X : List Int), i = .int .i64 k ∧ k ≤ 8 ∧ Hid (RB w wr out (l ++ X)) ∧ Hid (Below w.heap.size w wr) ∧ Hid (X ++ W (n / 128) k = W (n / 128) K) ∧ X.length + k ≤ 8) (fun _ i _ => (intOf i).toNat)
    case atStart => exact ⟨K, [], by rw [HKI.out], by omega, by simpa using HO1, HB1, Lib.hid rfl, by simp; omega⟩
    case round =>
      obtain ⟨k, X, rfl, hk8, HO, HB, HX, hXl⟩ := hrel
      have hlen : (l ++ X).length < 140737488355328 := by rw [List.length_append]; omega
      have HLen := Lib.hid hlen
      clear hlen
      by_cases hlt : 0 < k
      · obtain ⟨j, rfl⟩ : ∃ j, k = j + 1 := ⟨k - 1, by omega⟩
        have hsh := MOct.shr7 n (j + 1) (by omega)
        rw [show (7 * ((j + 1 : Nat) : Int)).toNat = 7 * (j + 1) by omega] at hsh
        have hor := MOct.or128 (n / 2 ^ (7 * (j + 1)) % 256) (by omega) (by omega)
        rw [Int.emod_emod_of_dvd _ (by decide)] at hor
        have hW : W (n / 128) (j + 1) = (n / 2 ^ (7 * (j + 1)) % 128 + 128) :: W (n / 128) j := by
          rw [MOct.W_head, hsh, Int.ediv_ediv_of_nonneg (by decide), show (128 : Int) * 128 ^ j = 128 ^ (j + 1) by rw [Int.pow_succ, Int.mul_comm]]
        have HW := Lib.hid hW
        have HOR := Lib.hid hor
        clear hW hsh hor
        go_wp2_with (at_builtin; refine app1 (w0 := w) _ _ rfl rfl u5 (l ++ X) _ rfl rfl HO.out HB.out HLen.out ?_; intro v2 w2 HO2 HB2)
        go_roundw
        case rel =>
          have ho2 := HO2.out
          rw [HOR.out] at ho2
          refine ⟨j, X ++ [n / 2 ^ (7 * (j + 1)) % 128 + 128], by go_num, by omega, Lib.hid (by simpa [List.append_assoc] using ho2), HB2, Lib.hid ?_, by rw [List.length_append]; simp; omega⟩
          rw [← HX.out, HW.out]; simp
        case measure => (simp [intOf] <;> omega)
      · have hk0 : k = 0 := by omega
        have hX : X = W (n / 128) K := by have := HX.out; rw [hk0] at this; simpa [W] using this
        have HX2 := Lib.hid hX
        clear hk0 hX
        go_wp2_with (at_builtin; refine app1 (w0 := w) _ _ rfl rfl u5 (l ++ X) _ rfl rfl HO.out HB.out HLen.out ?_; intro v2 w2 HO2 HB2)
        go_ret
        refine ⟨_, rfl, ?_, HB2.out⟩
        have := HO2.out
        rw [HV.out, ← HX2.out]
        simpa [List.append_assoc] using this

set_option maxHeartbeats 1000000 in
theorem ref02_Var_calls (A : Option Addr) (c : Nat) (l : List Int) (n : Int) (w : World) (h : CB w A l) (hc : l.length ≤ c) (hl : l.length + 9 < 140737488355328) (h0 : 0 ≤ n) (h1 : n < 18446744073709551616) :
    Calls Try.prog 19 #[.slice A l.length c, .int .u64 n] w fun e w' => ∃ v, e = .returned v ∧ RB w w' v (l ++ vr n) ∧ Below w.heap.size w w' := by
  have H := Lib.hid h
  have hsz := MOct.sz_range n
  have HLen := Lib.hid hl
  clear h hl
  by_cases h9 : sz n = 9
  · have hv : vr n = W (n / 256) 8 ++ [n % 256] := by unfold vr; rw [if_pos h9]
    have HV := Lib.hid hv
    have b9 : (sz n == 9) = true := by rw [beq_iff_eq]; exact h9
    clear hv h9
    go_enter Try.func19, Try.ntmps19
    go_wp2_with (first
      | (at_builtin; refine appN (w0 := w) _ _ rfl rfl _ [] l A c rfl rfl (RB.lit0 (Nat.le_refl _)) (H.out.alloc _) ((Below.refl _ _).alloc (Nat.le_refl _) _) (by have := HLen.out; rw [List.length_nil]; omega) ?_; intro v1 w1 HO1 HB1)
      | (go_at_call 21; refine (ref02_Size_calls _ _ h0 h1).mono ?_; rintro e w2 ⟨rfl, rfl⟩))
    go_loopw [5, 7] (fun out i wr => ∃ (k : Nat) (X : List Int), i = .int .i64 ((k : Int) - 1) ∧ k ≤ 8 ∧ Hid (RB w wr out (l ++ X)) ∧ Hid (Below w.heap.size w wr) ∧ Hid (X ++ W (n / 256) k = W (n / 256) 8) ∧ X.length + k ≤ 8) (fun _ i _ => (intOf i + 1).toNat)
    case atStart => exact ⟨8, [], by first | rfl | rw [HKI.out], by omega, by simpa using HO1, HB1, Lib.hid rfl, by simp; try omega⟩
    case round =>
      obtain ⟨k, X, rfl, hk8, HO, HB, HX, hXl⟩ := hrel
      have hlen : (l ++ X).length < 140737488355328 := by have := HLen.out; rw [List.length_append]; omega
      have HLn := Lib.hid hlen
      clear hlen
      by_cases hlt : 0 < k
      · obtain ⟨j, rfl⟩ : ∃ j, k = j + 1 := ⟨k - 1, by omega⟩
        have hsh : n / 2 ^ (8 + 7 * j) = n / 256 / 128 ^ j := by
          rw [Int.ediv_ediv_of_nonneg (by decide), Int.pow_add, Int.pow_mul]; rfl
        have hi : (((j + 1 : Nat) : Int) - 1) = (j : Int) := by omega
        have HI := Lib.hid hi
        have hj7 : j ≤ 7 := by omega
        clear hi
        have hq0 : 0 ≤ n / 2 ^ (8 + 7 * j) := Int.ediv_nonneg h0 (Int.le_of_lt (Int.pow_pos (by decide)))
        have hq1 : n / 2 ^ (8 + 7 * j) < 18446744073709551616 := Int.lt_of_le_of_lt (Int.ediv_le_self _ h0) h1
        have hand := MOct.and127_u64 _ hq0 hq1
        have hor := MOct.or128 (n / 2 ^ (8 + 7 * j) % 128) (by omega) (by omega)
        have hW : W (n / 256) (j + 1) = (n / 2 ^ (8 + 7 * j) % 128 + 128) :: W (n / 256) j := by rw [MOct.W_head, hsh]
        have HW := Lib.hid hW
        have hor2 : n / 2 ^ (8 + 7 * j) % 128 % 128 = n / 2 ^ (8 + 7 * j) % 128 := by omega
        rw [hor2] at hor
        have HOR := Lib.hid hor
        clear hW hsh hor hor2 hq0 hq1
        rw [HI.out]
        go_wp2_with (at_builtin; refine app1 (w0 := w) _ _ rfl rfl u5 (l ++ X) _ rfl rfl HO.out HB.out HLn.out ?_; intro v2 w2 HO2 HB2)
        go_roundw
        case rel =>
          have ho2 := HO2.out
          first | rw [HOR.out] at ho2 | skip
          refine ⟨j, X ++ [n / 2 ^ (8 + 7 * j) % 128 + 128], by go_num, by omega, Lib.hid (by simpa [List.append_assoc] using ho2), HB2, Lib.hid ?_, by rw [List.length_append]; simp; omega⟩
          rw [← HX.out, HW.out]; simp
        case measure => (simp [intOf] <;> omega)
      · have hk0 : k = 0 := by omega
        have hX : X = W (n / 256) 8 := by have := HX.out; rw [hk0] at this; simpa [W] using this
        have HX2 := Lib.hid hX
        skip
        clear hX hk0
        go_wp2_with (at_builtin; refine app1 (w0 := w) _ _ rfl rfl u5 (l ++ X) _ rfl rfl HO.out HB.out HLn.out ?_; intro v2 w2 HO2 HB2)
        go_ret
        refine ⟨_, rfl, ?_, HB2.out⟩
        have := HO2.out
        rw [HV.out, ← HX2.out]
        simpa [List.append_assoc] using this
  · obtain ⟨K, hK, hK8⟩ : ∃ K : Nat, K = (sz n).toNat - 1 ∧ K ≤ 8 := ⟨_, rfl, by omega⟩
    have hv : vr n = W (n / 128) K ++ [n % 128] := by unfold vr; rw [if_neg h9, hK]
    have HV := Lib.hid hv
    have b9 : (sz n == 9) = false := by rw [beq_eq_false_iff_ne]; exact h9
    have hki : sz n - 1 = (K : Int) := by omega
    have HKI := Lib.hid hki
    clear hv h9 hki hK
    go_enter Try.func19, Try.ntmps19
    go_wp2_with (first
      | (at_builtin; refine appN (w0 := w) _ _ rfl rfl _ [] l A c rfl rfl (RB.lit0 (Nat.le_refl _)) (H.out.alloc _) ((Below.refl _ _).alloc (Nat.le_refl _) _) (by have := HLen.out; rw [List.length_nil]; omega) ?_; intro v1 w1 HO1 HB1)
      | (go_at_call 21; refine (ref02_Size_calls _ _ h0 h1).mono ?_; rintro e w2 ⟨rfl, rfl⟩))
    go_loopw [5, 8] (fun out i wr => ∃ (k : Nat) (X : List Int), i = .int .i64 (k) ∧ k ≤ 8 ∧ Hid (RB w wr out (l ++ X)) ∧ Hid (Below w.heap.size w wr) ∧ Hid (X ++ W (n / 128) k = W (n / 128) K) ∧ X.length + k ≤ 8) (fun _ i _ => (intOf i).toNat)
    case atStart => exact ⟨K, [], by first | rfl | rw [HKI.out], by omega, by simpa using HO1, HB1, Lib.hid rfl, by simp; try omega⟩
    case round =>
      obtain ⟨k, X, rfl, hk8, HO, HB, HX, hXl⟩ := hrel
      have hlen : (l ++ X).length < 140737488355328 := by have := HLen.out; rw [List.length_append]; omega
      have HLn := Lib.hid hlen
      clear hlen
      by_cases hlt : 0 < k
      · obtain ⟨j, rfl⟩ : ∃ j, k = j + 1 := ⟨k - 1, by omega⟩
        have hsh : n / 2 ^ (7 * (j + 1)) = n / 128 / 128 ^ j := by
          rw [Int.ediv_ediv_of_nonneg (by decide), show (128 : Int) * 128 ^ j = 128 ^ (j + 1) by rw [Int.pow_succ, Int.mul_comm], Int.pow_mul]; rfl
        have hq0 : 0 ≤ n / 2 ^ (7 * (j + 1)) := Int.ediv_nonneg h0 (Int.le_of_lt (Int.pow_pos (by decide)))
        have hq1 : n / 2 ^ (7 * (j + 1)) < 18446744073709551616 := Int.lt_of_le_of_lt (Int.ediv_le_self _ h0) h1
        have hand := MOct.and127_u64 _ hq0 hq1
        have hor := MOct.or128 (n / 2 ^ (7 * (j + 1)) % 128) (by omega) (by omega)
        have hW : W (n / 128) (j + 1) = (n / 2 ^ (7 * (j + 1)) % 128 + 128) :: W (n / 128) j := by rw [MOct.W_head, hsh]
        have HW := Lib.hid hW
        have hor2 : n / 2 ^ (7 * (j + 1)) % 128 % 128 = n / 2 ^ (7 * (j + 1)) % 128 := by omega
        rw [hor2] at hor
        have HOR := Lib.hid hor
        clear hW hsh hor hor2 hq0 hq1
        go_wp2_with (at_builtin; refine app1 (w0 := w) _ _ rfl rfl u5 (l ++ X) _ rfl rfl HO.out HB.out HLn.out ?_; intro v2 w2 HO2 HB2)
        go_roundw
        case rel =>
          have ho2 := HO2.out
          first | rw [HOR.out] at ho2 | skip
          refine ⟨j, X ++ [n / 2 ^ (7 * (j + 1)) % 128 + 128], by go_num, by omega, Lib.hid (by simpa [List.append_assoc] using ho2), HB2, Lib.hid ?_, by rw [List.length_append]; simp; omega⟩
          rw [← HX.out, HW.out]; simp
        case measure => (simp [intOf] <;> omega)
      · have hk0 : k = 0 := by omega
        have hX : X = W (n / 128) K := by have := HX.out; rw [hk0] at this; simpa [W] using this
        have HX2 := Lib.hid hX
        have hand2 : Go.bits .and .u64 n 127 = n % 128 := MOct.and127_u64 _ h0 h1
        have hmm : n % 128 % 256 = n % 128 := by omega
        clear hX hk0
        go_wp2_with (at_builtin; refine app1 (w0 := w) _ _ rfl rfl u5 (l ++ X) _ rfl rfl HO.out HB.out HLn.out ?_; intro v2 w2 HO2 HB2)
        go_ret
        refine ⟨_, rfl, ?_, HB2.out⟩
        have := HO2.out
        rw [HV.out, ← HX2.out]
        simpa [List.append_assoc] using this
end Go.Proofs.Ytlfcgicobhalmaa.K
