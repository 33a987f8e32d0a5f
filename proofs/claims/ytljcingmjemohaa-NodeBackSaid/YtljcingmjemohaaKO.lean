/- Texts laid as one: The walks of layer 2 without sources: what Size, Var, Put, Get and Take come to, of the program and of the reference. · The walks of layer 2's Put, of the program and of the reference. -/
import Derived.Test.YtljcingmjemohaaKB
namespace Go.Proofs.Ytljcingmjemohaa.K
open Go Go.RowKit Go.Proofs.YtljcingmjemohaaW.PrintWords Go.Proofs.YtljcingmjemohaaW.PrintLast Go.Proofs.YtljcingmjemohaaW.PrintMore
set_option linter.unusedVariables false
set_option linter.unusedSimpArgs false
open Go.Proofs.Ytljcingmjemohaa.MOct (W V tk sz vr num head getV le be many putL)

set_option maxHeartbeats 1000000 in
theorem octet_Get_calls (A0 : Option Addr) (c0 : Nat) (l0 : List Int) (size : Int) (little : Bool) (w : World) (hr0 : CB w A0 l0) (hc0 : l0.length ≤ c0) (hb : bytesOk l0) :
    Calls Try.prog 114 #[.slice A0 l0.length c0, .int .i64 size, .bool little] w fun e w' => e = .returned (.tuple #[.int .u64 (getV l0 size little).1, .bool (getV l0 size little).2]) ∧ w = w' := by
  have HR := Lib.hid hr0
  have HK := Lib.hid hb
  by_cases hbad : size < 1 ∨ size > 8 ∨ (l0.length : Int) < size
  · have hf : getV l0 size little = (0, false) := by unfold getV; rw [if_pos hbad]
    have HF := Lib.hid hf
    have HB := Lib.hid hbad
    clear hr0 hb hf hbad
    by_cases k1 : size < 1
    · go_enter Try.func114, Try.ntmps114
      go_wp2
      go_ret2
      exact ⟨by rw [HF.out]; rfl, rfl⟩
    · by_cases k2 : 8 < size
      · go_enter Try.func114, Try.ntmps114
        go_wp2
        go_ret2
        exact ⟨by rw [HF.out]; rfl, rfl⟩
      · have k3 : (l0.length : Int) < size := by have := HB.out; omega
        go_enter Try.func114, Try.ntmps114
        go_wp2
        go_ret2
        exact ⟨by rw [HF.out]; rfl, rfl⟩
  · obtain ⟨m, rfl⟩ : ∃ m : Nat, size = m := ⟨size.toNat, by omega⟩
    have hf : getV l0 m little = (num (head l0 m little), true) := by unfold getV; rw [if_neg hbad, Int.toNat_natCast]
    have HF := Lib.hid hf
    have hl := MOct.head_length l0 m little (by omega)
    have HL := Lib.hid hl
    have HG := Lib.hid (MOct.head_range l0 m little hb)
    have k1 : 1 ≤ m := by omega
    have k2 : m ≤ 8 := by omega
    have k3 : m ≤ l0.length := by omega
    clear hr0 hb hf hbad hl
    go_enter Try.func114, Try.ntmps114
    go_wp2_with fail
    go_loop [8, 24] (fun n i => ∃ k : Nat, k ≤ m ∧ n = .int .u64 (num ((head l0 m little).take k)) ∧ i = .int .i64 k) (fun _ i => m - (intOf i).toNat)
    case atStart => exact ⟨0, by omega, rfl, rfl⟩
    case round =>
      obtain ⟨k, hkm, rfl, rfl⟩ := hrel
      by_cases hlt : k < m
      · have hlt2 : k < (head l0 m little).length := by rw [HL.out]; exact hlt
        have hsn : (head l0 m little).take (k + 1) = (head l0 m little).take k ++ [(head l0 m little).getD k 0] := MOct.take_snoc _ _ hlt2
        have hc := HG.out _ (MOct.getD_mem _ _ hlt2)
        have hN3 := MOct.num_lt ((head l0 m little).take k) (fun x hx => HG.out x (List.mem_of_mem_take hx)) (by rw [List.length_take]; omega)
        have hnum := MOct.num_snoc ((head l0 m little).take k) ((head l0 m little).getD k 0)
        rw [← hsn] at hnum
        have HN := Lib.hid hnum
        have e : Go.bits .or .u64 (num ((head l0 m little).take k) * 256) ((head l0 m little).getD k 0) = num ((head l0 m little).take k) * 256 + (head l0 m little).getD k 0 := MOct.or_u64 _ _ 8 (by omega) (by omega) (by omega) (by omega) (by omega)
        have hget := MOct.head_get l0 m little k k3 hlt
        clear hsn hnum
        cases little with
        | true =>
          obtain ⟨ad, rfl, hx⟩ := HR.out.at_ (m - 1 - k) (by omega)
          simp only [if_true] at hget
          rw [← hget] at hx
          have hi : ((m : Int) - 1 - (k : Int)).toNat = m - 1 - k := by omega
          clear hget
          generalize (head l0 m true).getD k 0 = c at *
          generalize num (List.take k (head l0 m true)) = N at *
          go_wp2_with fail
          go_round
          case rel => exact ⟨k + 1, by omega, by rw [HN.out], by go_num⟩
          case measure => (simp [intOf] <;> omega)
        | false =>
          obtain ⟨ad, rfl, hx⟩ := HR.out.at_ k (by omega)
          simp only [Bool.false_eq_true, if_false] at hget
          rw [← hget] at hx
          clear hget
          generalize (head l0 m false).getD k 0 = c at *
          generalize num (List.take k (head l0 m false)) = N at *
          go_wp2_with fail
          go_round
          case rel => exact ⟨k + 1, by omega, by rw [HN.out], by go_num⟩
          case measure => (simp [intOf] <;> omega)
      · have hk : k = m := by omega
        have hfin : num ((head l0 m little).take k) = num (head l0 m little) := by rw [List.take_of_length_le (by rw [HL.out]; omega)]
        have HN := Lib.hid hfin
        clear hk hfin
        go_wp2
        go_ret2
        exact ⟨by rw [HF.out, ← HN.out]; rfl, rfl⟩

set_option maxHeartbeats 1000000 in
theorem ref02_Get_calls (A0 : Option Addr) (c0 : Nat) (l0 : List Int) (size : Int) (little : Bool) (w : World) (hr0 : CB w A0 l0) (hc0 : l0.length ≤ c0) (hb : bytesOk l0) :
    Calls Try.prog 59 #[.slice A0 l0.length c0, .int .i64 size, .bool little] w fun e w' => e = .returned (.tuple #[.int .u64 (getV l0 size little).1, .bool (getV l0 size little).2]) ∧ w = w' := by
  have HR := Lib.hid hr0
  have HK := Lib.hid hb
  by_cases hbad : size < 1 ∨ size > 8 ∨ (l0.length : Int) < size
  · have hf : getV l0 size little = (0, false) := by unfold getV; rw [if_pos hbad]
    have HF := Lib.hid hf
    have HB := Lib.hid hbad
    clear hr0 hb hf hbad
    by_cases k1 : size < 1
    · go_enter Try.func59, Try.ntmps59
      go_wp2
      go_ret2
      exact ⟨by rw [HF.out]; rfl, rfl⟩
    · by_cases k2 : 8 < size
      · go_enter Try.func59, Try.ntmps59
        go_wp2
        go_ret2
        exact ⟨by rw [HF.out]; rfl, rfl⟩
      · have k3 : (l0.length : Int) < size := by have := HB.out; omega
        go_enter Try.func59, Try.ntmps59
        go_wp2
        go_ret2
        exact ⟨by rw [HF.out]; rfl, rfl⟩
  · obtain ⟨m, rfl⟩ : ∃ m : Nat, size = m := ⟨size.toNat, by omega⟩
    have hf : getV l0 m little = (num (head l0 m little), true) := by unfold getV; rw [if_neg hbad, Int.toNat_natCast]
    have HF := Lib.hid hf
    have hl := MOct.head_length l0 m little (by omega)
    have HL := Lib.hid hl
    have HG := Lib.hid (MOct.head_range l0 m little hb)
    have k1 : 1 ≤ m := by omega
    have k2 : m ≤ 8 := by omega
    have k3 : m ≤ l0.length := by omega
    clear hr0 hb hf hbad hl
    go_enter Try.func59, Try.ntmps59
    go_wp2_with fail
    go_loop [8, 9] (fun n i => ∃ k : Nat, k ≤ m ∧ n = .int .u64 (num ((head l0 m little).take k)) ∧ i = .int .i64 k) (fun _ i => m - (intOf i).toNat)
    case atStart => exact ⟨0, by omega, rfl, rfl⟩
    case round =>
      obtain ⟨k, hkm, rfl, rfl⟩ := hrel
      by_cases hlt : k < m
      · have hlt2 : k < (head l0 m little).length := by rw [HL.out]; exact hlt
        have hsn : (head l0 m little).take (k + 1) = (head l0 m little).take k ++ [(head l0 m little).getD k 0] := MOct.take_snoc _ _ hlt2
        have hc := HG.out _ (MOct.getD_mem _ _ hlt2)
        have hN3 := MOct.num_lt ((head l0 m little).take k) (fun x hx => HG.out x (List.mem_of_mem_take hx)) (by rw [List.length_take]; omega)
        have hnum := MOct.num_snoc ((head l0 m little).take k) ((head l0 m little).getD k 0)
        rw [← hsn] at hnum
        have HN := Lib.hid hnum
        have e : Go.bits .or .u64 (num ((head l0 m little).take k) * 256) ((head l0 m little).getD k 0) = num ((head l0 m little).take k) * 256 + (head l0 m little).getD k 0 := MOct.or_u64 _ _ 8 (by omega) (by omega) (by omega) (by omega) (by omega)
        have hget := MOct.head_get l0 m little k k3 hlt
        clear hsn hnum
        cases little with
        | true =>
          obtain ⟨ad, rfl, hx⟩ := HR.out.at_ (m - 1 - k) (by omega)
          simp only [if_true] at hget
          rw [← hget] at hx
          have hi : ((m : Int) - 1 - (k : Int)).toNat = m - 1 - k := by omega
          clear hget
          generalize (head l0 m true).getD k 0 = c at *
          generalize num (List.take k (head l0 m true)) = N at *
          go_wp2_with fail
          go_round
          case rel => exact ⟨k + 1, by omega, by rw [HN.out], by go_num⟩
          case measure => (simp [intOf] <;> omega)
        | false =>
          obtain ⟨ad, rfl, hx⟩ := HR.out.at_ k (by omega)
          simp only [Bool.false_eq_true, if_false] at hget
          rw [← hget] at hx
          clear hget
          generalize (head l0 m false).getD k 0 = c at *
          generalize num (List.take k (head l0 m false)) = N at *
          go_wp2_with fail
          go_round
          case rel => exact ⟨k + 1, by omega, by rw [HN.out], by go_num⟩
          case measure => (simp [intOf] <;> omega)
      · have hk : k = m := by omega
        have hfin : num ((head l0 m little).take k) = num (head l0 m little) := by rw [List.take_of_length_le (by rw [HL.out]; omega)]
        have HN := Lib.hid hfin
        clear hk hfin
        go_wp2
        go_ret2
        exact ⟨by rw [HF.out, ← HN.out]; rfl, rfl⟩

theorem clone_calls (A : Option Addr) (c : Nat) (l : List Int) (w : World) (h : CB w A l) (hc : l.length ≤ c) (hl : l.length < 140737488355328) :
    Calls Try.prog 89 #[.slice A l.length c] w fun e w' => ∃ v, e = .returned v ∧ RB w w' v l ∧ Below w.heap.size w w' := by
  have qT : ∀ (w : World) (a : Option Addr) (n c n' c' : Nat), (binOp .eql 32 (.slice a n c) (.slice none n' c')).run Try.prog w = .ok (.bool a.isNone) w := fun w a n c n' c' => Lib.run_eql_slice_nil w _ _ a n c n' c' Try.underlying32
  cases A with
  | none =>
    obtain rfl : l = [] := by
      cases l with
      | nil => rfl
      | cons a l =>
        obtain ⟨_, hh, _⟩ := h.2.2 (by simp)
        cases hh
    clear h
    go_enter Try.func89, Try.ntmps89
    go_wp2
    go_ret
    exact ⟨_, rfl, RB.nil _ _, Below.refl _ _⟩
  | some a =>
    have H := Lib.hid h
    clear h
    go_enter Try.func89, Try.ntmps89
    go_wp2_with (at_builtin; refine appN (w0 := w) _ _ rfl rfl _ [] l (some a) c rfl rfl (RB.lit0 (Nat.le_refl _)) (H.out.alloc _) ((Below.refl _ _).alloc (Nat.le_refl _) _) (by simpa using hl) ?_; intro v1 w1 HO HB)
    go_ret
    exact ⟨_, rfl, HO.out, HB.out⟩

end Go.Proofs.Ytljcingmjemohaa.K
namespace Go.Proofs.Ytljcingmjemohaa.K
open Go Go.RowKit Go.Proofs.YtljcingmjemohaaW.PrintWords Go.Proofs.YtljcingmjemohaaW.PrintLast Go.Proofs.YtljcingmjemohaaW.PrintMore
set_option linter.unusedVariables false
set_option linter.unusedSimpArgs false
open Go.Proofs.Ytljcingmjemohaa.MOct (W V tk sz vr num head getV le be many putL)


set_option maxHeartbeats 1000000 in
theorem ref02_Put_littleIn (A : Option Addr) (c : Nat) (l : List Int) (n size : Int) (m : Nat) (w : World) (h : CB w A l) (hc : l.length ≤ c) (hl : l.length + 9 < 140737488355328) (h0 : 0 ≤ n) (h1 : n < 18446744073709551616) (hm : size = (m : Int)) (hm8 : m ≤ 8) :
    Calls Try.prog 46 #[.slice A l.length c, .int .u64 n, .int .i64 size, .bool true] w fun e w' => ∃ v, e = .returned v ∧ RB w w' v (l ++ putL n size true) ∧ Below w.heap.size w w' := by
    have H := Lib.hid h
    have HLen := Lib.hid hl
    have hmm : many size = m := by unfold many; split <;> omega
    have hv : putL n size true = le n m := by simp [putL, hmm]
    have HV := Lib.hid hv
    clear h hl hmm hv
    obtain rfl := hm
    go_enter Try.func46, Try.ntmps46
    go_wp2_with (at_builtin; refine appN (w0 := w) _ _ rfl rfl _ [] l A c rfl rfl (RB.lit0 (Nat.le_refl _)) (H.out.alloc _) ((Below.refl _ _).alloc (Nat.le_refl _) _) (by have := HLen.out; rw [List.length_nil]; omega) ?_; intro v1 w1 HO1 HB1)
    go_loopw [9, 10] (fun out i wr => ∃ (k : Nat) (X : List Int), i = .int .i64 k ∧ k ≤ m ∧ Hid (RB w wr out (l ++ X)) ∧ Hid (Below w.heap.size w wr) ∧ Hid (X = le n k) ∧ X.length = k) (fun _ i _ => m - (intOf i).toNat)
    case atStart => exact ⟨0, [], rfl, by omega, by simpa using HO1, HB1, Lib.hid (by simp [le]), rfl⟩
    case round =>
      obtain ⟨k, X, rfl, hkm, HO, HB, HX, hXl⟩ := hrel
      have hlen : (l ++ X).length < 140737488355328 := by have := HLen.out; rw [List.length_append]; omega
      have HLn := Lib.hid hlen
      have HXl := Lib.hid hXl
      clear hlen hXl
      by_cases hlt : k < m
      · 
        have hW : le n (k + 1) = le n k ++ [n / 2 ^ (8 * k) % 256] := by rw [MOct.shr8]; rfl
        have HW := Lib.hid hW
        clear hW
        go_wp2_with (at_builtin; refine app1 (w0 := w) _ _ rfl rfl u9 (l ++ X) _ rfl rfl HO.out HB.out HLn.out ?_; intro v2 w2 HO2 HB2)
        go_roundw
        case rel =>
          refine ⟨k + 1, X ++ [n / 2 ^ (8 * k) % 256], by go_num, by omega, by simpa [List.append_assoc] using HO2, HB2, Lib.hid ?_, by have := HXl.out; simp; omega⟩
          rw [HW.out, HX.out]
        case measure => (simp [intOf] <;> omega)
      · have hk0 : k = m := by omega
        have hX : X = le n m := by have := HX.out; rw [hk0] at this; exact this
        have HX2 := Lib.hid hX
        clear hX hk0
        go_wp2
        go_ret
        refine ⟨_, rfl, ?_, HB.out⟩
        have := HO.out
        rw [HV.out, ← HX2.out]
        exact this

set_option maxHeartbeats 1000000 in
theorem ref02_Put_littleOver (A : Option Addr) (c : Nat) (l : List Int) (n size : Int) (w : World) (h : CB w A l) (hc : l.length ≤ c) (hl : l.length + 9 < 140737488355328) (h0 : 0 ≤ n) (h1 : n < 18446744073709551616) (hs : 8 < size) :
    Calls Try.prog 46 #[.slice A l.length c, .int .u64 n, .int .i64 size, .bool true] w fun e w' => ∃ v, e = .returned v ∧ RB w w' v (l ++ putL n size true) ∧ Below w.heap.size w w' := by
    have H := Lib.hid h
    have HLen := Lib.hid hl
    have hmm : many size = 8 := by unfold many; rw [if_pos hs]; rfl
    have hv : putL n size true = le n 8 := by simp [putL, hmm]
    have HV := Lib.hid hv
    clear h hl hmm hv
    go_enter Try.func46, Try.ntmps46
    go_wp2_with (at_builtin; refine appN (w0 := w) _ _ rfl rfl _ [] l A c rfl rfl (RB.lit0 (Nat.le_refl _)) (H.out.alloc _) ((Below.refl _ _).alloc (Nat.le_refl _) _) (by have := HLen.out; rw [List.length_nil]; omega) ?_; intro v1 w1 HO1 HB1)
    go_loopw [9, 10] (fun out i wr => ∃ (k : Nat) (X : List Int), i = .int .i64 k ∧ k ≤ 8 ∧ Hid (RB w wr out (l ++ X)) ∧ Hid (Below w.heap.size w wr) ∧ Hid (X = le n k) ∧ X.length = k) (fun _ i _ => 8 - (intOf i).toNat)
    case atStart => exact ⟨0, [], rfl, by omega, by simpa using HO1, HB1, Lib.hid (by simp [le]), rfl⟩
    case round =>
      obtain ⟨k, X, rfl, hkm, HO, HB, HX, hXl⟩ := hrel
      have hlen : (l ++ X).length < 140737488355328 := by have := HLen.out; rw [List.length_append]; omega
      have HLn := Lib.hid hlen
      have HXl := Lib.hid hXl
      clear hlen hXl
      by_cases hlt : k < 8
      · 
        have hW : le n (k + 1) = le n k ++ [n / 2 ^ (8 * k) % 256] := by rw [MOct.shr8]; rfl
        have HW := Lib.hid hW
        clear hW
        go_wp2_with (at_builtin; refine app1 (w0 := w) _ _ rfl rfl u9 (l ++ X) _ rfl rfl HO.out HB.out HLn.out ?_; intro v2 w2 HO2 HB2)
        go_roundw
        case rel =>
          refine ⟨k + 1, X ++ [n / 2 ^ (8 * k) % 256], by go_num, by omega, by simpa [List.append_assoc] using HO2, HB2, Lib.hid ?_, by have := HXl.out; simp; omega⟩
          rw [HW.out, HX.out]
        case measure => (simp [intOf] <;> omega)
      · have hk0 : k = 8 := by omega
        have hX : X = le n 8 := by have := HX.out; rw [hk0] at this; exact this
        have HX2 := Lib.hid hX
        clear hX hk0
        go_wp2
        go_ret
        refine ⟨_, rfl, ?_, HB.out⟩
        have := HO.out
        rw [HV.out, ← HX2.out]
        exact this

theorem ref02_Put_littleBelow (A : Option Addr) (c : Nat) (l : List Int) (n size : Int) (w : World) (h : CB w A l) (hc : l.length ≤ c) (hl : l.length + 9 < 140737488355328) (hs : size < 0) :
    Calls Try.prog 46 #[.slice A l.length c, .int .u64 n, .int .i64 size, .bool true] w fun e w' => ∃ v, e = .returned v ∧ RB w w' v (l ++ putL n size true) ∧ Below w.heap.size w w' := by
    have H := Lib.hid h
    have HLen := Lib.hid hl
    have hmm : many size = 0 := by unfold many; split <;> omega
    have hv : l ++ putL n size true = l := by simp [putL, hmm, le, be]
    have HV := Lib.hid hv
    clear h hl hmm hv
    go_enter Try.func46, Try.ntmps46
    go_wp2_with (at_builtin; refine appN (w0 := w) _ _ rfl rfl _ [] l A c rfl rfl (RB.lit0 (Nat.le_refl _)) (H.out.alloc _) ((Below.refl _ _).alloc (Nat.le_refl _) _) (by have := HLen.out; rw [List.length_nil]; omega) ?_; intro v1 w1 HO1 HB1)
    go_loopw [9, 10] (fun out i wr => i = .int .i64 0 ∧ Hid (RB w wr out l) ∧ Hid (Below w.heap.size w wr)) (fun _ i _ => 0)
    case atStart => exact ⟨rfl, by simpa using HO1, HB1⟩
    case round =>
      obtain ⟨rfl, HO, HB⟩ := hrel
      go_wp2
      go_ret
      exact ⟨_, rfl, by rw [HV.out]; exact HO.out, HB.out⟩

set_option maxHeartbeats 1000000 in
theorem ref02_Put_bigIn (A : Option Addr) (c : Nat) (l : List Int) (n size : Int) (m : Nat) (w : World) (h : CB w A l) (hc : l.length ≤ c) (hl : l.length + 9 < 140737488355328) (h0 : 0 ≤ n) (h1 : n < 18446744073709551616) (hm : size = (m : Int)) (hm8 : m ≤ 8) :
    Calls Try.prog 46 #[.slice A l.length c, .int .u64 n, .int .i64 size, .bool false] w fun e w' => ∃ v, e = .returned v ∧ RB w w' v (l ++ putL n size false) ∧ Below w.heap.size w w' := by
    have H := Lib.hid h
    have HLen := Lib.hid hl
    have hmm : many size = m := by unfold many; split <;> omega
    have hv : putL n size false = be n m := by simp [putL, hmm]
    have HV := Lib.hid hv
    clear h hl hmm hv
    obtain rfl := hm
    go_enter Try.func46, Try.ntmps46
    go_wp2_with (at_builtin; refine appN (w0 := w) _ _ rfl rfl _ [] l A c rfl rfl (RB.lit0 (Nat.le_refl _)) (H.out.alloc _) ((Below.refl _ _).alloc (Nat.le_refl _) _) (by have := HLen.out; rw [List.length_nil]; omega) ?_; intro v1 w1 HO1 HB1)
    go_loopw [9, 10] (fun out i wr => ∃ (k : Nat) (X : List Int), i = .int .i64 k ∧ k ≤ m ∧ Hid (RB w wr out (l ++ X)) ∧ Hid (Below w.heap.size w wr) ∧ Hid (X ++ be n (m - k) = be n m) ∧ X.length = k) (fun _ i _ => m - (intOf i).toNat)
    case atStart => exact ⟨0, [], rfl, by omega, by simpa using HO1, HB1, Lib.hid (by simp [le]), rfl⟩
    case round =>
      obtain ⟨k, X, rfl, hkm, HO, HB, HX, hXl⟩ := hrel
      have hlen : (l ++ X).length < 140737488355328 := by have := HLen.out; rw [List.length_append]; omega
      have HLn := Lib.hid hlen
      have HXl := Lib.hid hXl
      clear hlen hXl
      by_cases hlt : k < m
      · 
        have hW : be n (m - k) = (n / 2 ^ (8 * (m - 1 - k)) % 256) :: be n (m - (k + 1)) := by
          rw [MOct.shr8, show m - k = (m - (k + 1)) + 1 by omega, show m - 1 - k = m - (k + 1) by omega]; rfl
        have HW := Lib.hid hW
        have hi : IntKind.u64.wrap (8 * ((m : Int) - 1 - (k : Int))) = ((8 * (m - 1 - k) : Nat) : Int) := by rw [IntKind.wrap_u64]; omega
        have hi2 : 8 * ((m : Int) - 1 - (k : Int)) = ((8 * (m - 1 - k) : Nat) : Int) := by omega
        have hsh : shr .u64 n ((8 * (m - 1 - k) : Nat) : Int) = n / 2 ^ (8 * (m - 1 - k)) := by rw [MOct.shr_u64 _ _ (by omega), Int.toNat_natCast]
        have htn : (8 * ((m : Int) - 1 - (k : Int))).toNat = 8 * (m - 1 - k) := by omega
        clear hW hi hi2 hsh
        go_wp2_with (at_builtin; refine app1 (w0 := w) _ _ rfl rfl u9 (l ++ X) _ rfl rfl HO.out HB.out HLn.out ?_; intro v2 w2 HO2 HB2)
        go_roundw
        case rel =>
          refine ⟨k + 1, X ++ [n / 2 ^ (8 * (m - 1 - k)) % 256], by go_num, by omega, by simpa [List.append_assoc] using HO2, HB2, Lib.hid ?_, by have := HXl.out; simp; omega⟩
          rw [← HX.out, HW.out]; simp
        case measure => (simp [intOf] <;> omega)
      · have hk0 : k = m := by omega
        have hX : X = be n m := by have := HX.out; rw [hk0] at this; simpa [be] using this
        have HX2 := Lib.hid hX
        clear hX hk0
        go_wp2
        go_ret
        refine ⟨_, rfl, ?_, HB.out⟩
        have := HO.out
        rw [HV.out, ← HX2.out]
        exact this

set_option maxHeartbeats 1000000 in
theorem ref02_Put_bigOver (A : Option Addr) (c : Nat) (l : List Int) (n size : Int) (w : World) (h : CB w A l) (hc : l.length ≤ c) (hl : l.length + 9 < 140737488355328) (h0 : 0 ≤ n) (h1 : n < 18446744073709551616) (hs : 8 < size) :
    Calls Try.prog 46 #[.slice A l.length c, .int .u64 n, .int .i64 size, .bool false] w fun e w' => ∃ v, e = .returned v ∧ RB w w' v (l ++ putL n size false) ∧ Below w.heap.size w w' := by
    have H := Lib.hid h
    have HLen := Lib.hid hl
    have hmm : many size = 8 := by unfold many; rw [if_pos hs]; rfl
    have hv : putL n size false = be n 8 := by simp [putL, hmm]
    have HV := Lib.hid hv
    clear h hl hmm hv
    go_enter Try.func46, Try.ntmps46
    go_wp2_with (at_builtin; refine appN (w0 := w) _ _ rfl rfl _ [] l A c rfl rfl (RB.lit0 (Nat.le_refl _)) (H.out.alloc _) ((Below.refl _ _).alloc (Nat.le_refl _) _) (by have := HLen.out; rw [List.length_nil]; omega) ?_; intro v1 w1 HO1 HB1)
    go_loopw [9, 10] (fun out i wr => ∃ (k : Nat) (X : List Int), i = .int .i64 k ∧ k ≤ 8 ∧ Hid (RB w wr out (l ++ X)) ∧ Hid (Below w.heap.size w wr) ∧ Hid (X ++ be n (8 - k) = be n 8) ∧ X.length = k) (fun _ i _ => 8 - (intOf i).toNat)
    case atStart => exact ⟨0, [], rfl, by omega, by simpa using HO1, HB1, Lib.hid (by simp [le]), rfl⟩
    case round =>
      obtain ⟨k, X, rfl, hkm, HO, HB, HX, hXl⟩ := hrel
      have hlen : (l ++ X).length < 140737488355328 := by have := HLen.out; rw [List.length_append]; omega
      have HLn := Lib.hid hlen
      have HXl := Lib.hid hXl
      clear hlen hXl
      by_cases hlt : k < 8
      · 
        have hW : be n (8 - k) = (n / 2 ^ (8 * (7 - k)) % 256) :: be n (8 - (k + 1)) := by
          rw [MOct.shr8, show 8 - k = (8 - (k + 1)) + 1 by omega, show 7 - k = 8 - (k + 1) by omega]; rfl
        have HW := Lib.hid hW
        have hi : IntKind.u64.wrap (8 * ((7 : Int) - (k : Int))) = ((8 * (7 - k) : Nat) : Int) := by rw [IntKind.wrap_u64]; omega
        have hi2 : 8 * ((7 : Int) - (k : Int)) = ((8 * (7 - k) : Nat) : Int) := by omega
        have hsh : shr .u64 n ((8 * (7 - k) : Nat) : Int) = n / 2 ^ (8 * (7 - k)) := by rw [MOct.shr_u64 _ _ (by omega), Int.toNat_natCast]
        have htn : (8 * ((7 : Int) - (k : Int))).toNat = 8 * (7 - k) := by omega
        clear hW hi hi2 hsh
        go_wp2_with (at_builtin; refine app1 (w0 := w) _ _ rfl rfl u9 (l ++ X) _ rfl rfl HO.out HB.out HLn.out ?_; intro v2 w2 HO2 HB2)
        go_roundw
        case rel =>
          refine ⟨k + 1, X ++ [n / 2 ^ (8 * (7 - k)) % 256], by go_num, by omega, by simpa [List.append_assoc] using HO2, HB2, Lib.hid ?_, by have := HXl.out; simp; omega⟩
          rw [← HX.out, HW.out]; simp
        case measure => (simp [intOf] <;> omega)
      · have hk0 : k = 8 := by omega
        have hX : X = be n 8 := by have := HX.out; rw [hk0] at this; simpa [be] using this
        have HX2 := Lib.hid hX
        clear hX hk0
        go_wp2
        go_ret
        refine ⟨_, rfl, ?_, HB.out⟩
        have := HO.out
        rw [HV.out, ← HX2.out]
        exact this

theorem ref02_Put_bigBelow (A : Option Addr) (c : Nat) (l : List Int) (n size : Int) (w : World) (h : CB w A l) (hc : l.length ≤ c) (hl : l.length + 9 < 140737488355328) (hs : size < 0) :
    Calls Try.prog 46 #[.slice A l.length c, .int .u64 n, .int .i64 size, .bool false] w fun e w' => ∃ v, e = .returned v ∧ RB w w' v (l ++ putL n size false) ∧ Below w.heap.size w w' := by
    have H := Lib.hid h
    have HLen := Lib.hid hl
    have hmm : many size = 0 := by unfold many; split <;> omega
    have hv : l ++ putL n size false = l := by simp [putL, hmm, le, be]
    have HV := Lib.hid hv
    clear h hl hmm hv
    go_enter Try.func46, Try.ntmps46
    go_wp2_with (at_builtin; refine appN (w0 := w) _ _ rfl rfl _ [] l A c rfl rfl (RB.lit0 (Nat.le_refl _)) (H.out.alloc _) ((Below.refl _ _).alloc (Nat.le_refl _) _) (by have := HLen.out; rw [List.length_nil]; omega) ?_; intro v1 w1 HO1 HB1)
    go_loopw [9, 10] (fun out i wr => i = .int .i64 0 ∧ Hid (RB w wr out l) ∧ Hid (Below w.heap.size w wr)) (fun _ i _ => 0)
    case atStart => exact ⟨rfl, by simpa using HO1, HB1⟩
    case round =>
      obtain ⟨rfl, HO, HB⟩ := hrel
      go_wp2
      go_ret
      exact ⟨_, rfl, by rw [HV.out]; exact HO.out, HB.out⟩

theorem ref02_Put_calls (A : Option Addr) (c : Nat) (l : List Int) (n size : Int) (little : Bool) (w : World) (h : CB w A l) (hc : l.length ≤ c) (hl : l.length + 9 < 140737488355328) (h0 : 0 ≤ n) (h1 : n < 18446744073709551616) :
    Calls Try.prog 46 #[.slice A l.length c, .int .u64 n, .int .i64 size, .bool little] w fun e w' => ∃ v, e = .returned v ∧ RB w w' v (l ++ putL n size little) ∧ Below w.heap.size w w' := by
  rcases Int.lt_or_le size 0 with hs | hs
  · cases little
    · exact ref02_Put_bigBelow A c l n size w h hc hl hs
    · exact ref02_Put_littleBelow A c l n size w h hc hl hs
  · by_cases h8 : 8 < size
    · cases little
      · exact ref02_Put_bigOver A c l n size w h hc hl h0 h1 h8
      · exact ref02_Put_littleOver A c l n size w h hc hl h0 h1 h8
    · cases little
      · exact ref02_Put_bigIn A c l n size size.toNat w h hc hl h0 h1 (by omega) (by omega)
      · exact ref02_Put_littleIn A c l n size size.toNat w h hc hl h0 h1 (by omega) (by omega)

theorem getD_reverse (l : List Int) (t : Nat) (h : t < l.length) : l.reverse.getD t 0 = l.getD (l.length - 1 - t) 0 := by
  simp only [List.getD_eq_getElem?_getD]
  rw [List.getElem?_reverse h]
set_option maxHeartbeats 1000000 in
theorem rev_calls (g off m cap : Nat) (cur : Array Value) (l : List Int) (w : World) (hl : l.length = m) (hh : w.heap[g]? = some (.cells cur 5 (0, 0))) (hoff : off + m ≤ cur.size) (hm : m ≤ cap) (hm2 : m < 1000000)
    (hc : ∀ t, t < m → cur[off + t]? = some (.int .u8 (l.getD t 0))) :
    Calls Try.prog 90 #[.slice (some ⟨g, off, none⟩) m cap] w fun e w' => e = .returned (.tuple #[]) ∧ w.grownBy w' (some g) ∧ ∃ cur' : Array Value, w'.heap[g]? = some (.cells cur' 5 (0, 0)) ∧ cur'.size = cur.size ∧
      (∀ t, t < m → cur'[off + t]? = some (.int .u8 (l.reverse.getD t 0))) ∧ ∀ t, t < off ∨ off + m ≤ t → cur'[t]? = cur[t]? := by
  have HH := Lib.hid hh
  have HC := Lib.hid hc
  have HL := Lib.hid hl
  clear hh hc hl
  go_enter Try.func90, Try.ntmps90
  go_wp2_with fail
  go_loopw [2, 3] (fun i j wr => ∃ (p : Nat) (q : Int) (cur' : Array Value), i = .int .i64 p ∧ j = .int .i64 q ∧ (p : Int) + q = m - 1 ∧ p ≤ m ∧ Hid (w.grownBy wr (some g)) ∧ Hid (wr.heap[g]? = some (.cells cur' 5 (0, 0))) ∧ Hid (cur'.size = cur.size) ∧
      Hid (∀ t, t < m → cur'[off + t]? = some (.int .u8 (if t < p ∨ m - 1 - p < t then l.reverse.getD t 0 else l.getD t 0))) ∧ Hid (∀ t, t < off ∨ off + m ≤ t → cur'[t]? = cur[t]?)) (fun i _ _ => m - (intOf i).toNat)
  case atStart => exact ⟨0, m - 1, cur, rfl, by go_num, by omega, by omega, Lib.hid (World.grownBy.refl _ _), HH, Lib.hid rfl, Lib.hid (fun t ht => by rw [if_neg (by omega)]; exact HC.out t ht), Lib.hid (fun _ _ => rfl)⟩
  case round =>
    obtain ⟨p, q, cur', rfl, rfl, hpq, hpm, HG, HB, HS, HT, HO⟩ := hrel
    by_cases hlt : (p : Int) < q
    · obtain ⟨r, rfl⟩ : ∃ r : Nat, q = r := ⟨q.toNat, by omega⟩
      have hp1 := HT.out p (by omega)
      have hr1 := HT.out r (by omega)
      rw [if_neg (by omega)] at hp1 hr1
      have hb := HB.out
      have c1 : wr.cell? ⟨g, off + p, none⟩ = some (.int .u8 (l.getD p 0)) := by rw [cell_of_row wr g _ cur' 5 (0, 0) hb]; exact hp1
      have c2 : wr.cell? ⟨g, off + r, none⟩ = some (.int .u8 (l.getD r 0)) := by rw [cell_of_row wr g _ cur' 5 (0, 0) hb]; exact hr1
      have f1 : ∀ t, wr.frozen? ⟨g, t, none⟩ = false := fun t => by simp [World.frozen?, hb]
      clear hp1 hr1 hb
      obtain ⟨x, hx⟩ : ∃ x, l.getD p 0 = x := ⟨_, rfl⟩
      obtain ⟨y, hy⟩ : ∃ y, l.getD r 0 = y := ⟨_, rfl⟩
      have hx2 : l.reverse.getD r 0 = x := by rw [getD_reverse _ _ (by rw [HL.out]; omega), ← hx, HL.out, show m - 1 - r = p by omega]
      have hy2 : l.reverse.getD p 0 = y := by rw [getD_reverse _ _ (by rw [HL.out]; omega), ← hy, HL.out, show m - 1 - p = r by omega]
      rw [hx] at c1
      rw [hy] at c2
      have HX := Lib.hid hx2
      have HY := Lib.hid hy2
      clear hx hy hx2 hy2
      go_wp2
      have hb1 : 0 ≤ (p : Int) ∧ (p : Int) < m := by omega
      have hb2 : 0 ≤ (r : Int) ∧ (r : Int) < m := by omega
      have f2 := f1 (off + p)
      have f3 := f1 (off + r)
      go_region
      all_goals go_wp2
      all_goals
        refine ⟨⟨p + 1, r - 1, (cur'.setIfInBounds (off + p) (.int .u8 y)).setIfInBounds (off + r) (.int .u8 x), by go_num, by go_num, by omega, by omega, Lib.hid (only_drew (only_setCell (only_setCell HG.out (.inl rfl) _) (.inl rfl) _)),
          Lib.hid (heap_set _ _ _ _ _ _ (heap_set _ _ _ _ _ _ HB.out)), Lib.hid (by simp [HS.out]), Lib.hid ?_, Lib.hid ?_⟩, by simp [intOf]; omega⟩
        · intro t ht
          have := HT.out t ht
          have hs := HS.out
          by_cases e1 : t = r
          · subst e1
            rw [if_pos (by omega), HX.out, Array.getElem?_setIfInBounds_self_of_lt (by simp; omega)]
          · by_cases e2 : t = p
            · subst e2
              rw [if_pos (by omega), HY.out, Array.getElem?_setIfInBounds_ne (by omega), Array.getElem?_setIfInBounds_self_of_lt (by omega)]
            · rw [Array.getElem?_setIfInBounds_ne (by omega), Array.getElem?_setIfInBounds_ne (by omega), this]
              by_cases e3 : t < p ∨ m - 1 - p < t
              · rw [if_pos e3, if_pos (by omega)]
              · rw [if_neg e3, if_neg (by omega)]
        · intro t ht
          rw [Array.getElem?_setIfInBounds_ne (by omega), Array.getElem?_setIfInBounds_ne (by omega)]
          exact HO.out t ht
    · go_wp2
      go_end0
      refine ⟨rfl, HG.out, cur', HB.out, HS.out, fun t ht => ?_, HO.out⟩
      have := HT.out t ht
      by_cases e3 : t < p ∨ m - 1 - p < t
      · rw [if_pos e3] at this; exact this
      · rw [if_neg e3] at this
        have h2 := getD_reverse l t (by rw [HL.out]; omega)
        rw [HL.out, show m - 1 - t = t by omega] at h2
        rw [this]
        simp only [List.getD_eq_getElem?_getD] at h2 ⊢
        rw [h2]

theorem rev_nil_calls (A : Option Addr) (cap : Nat) (w : World) : Calls Try.prog 90 #[.slice A 0 cap] w fun e w' => e = .returned (.tuple #[]) ∧ w = w' := by
  go_enter Try.func90, Try.ntmps90
  go_wp2_with fail
  go_loop [2, 3] (fun i j => i = .int .i64 0 ∧ j = .int .i64 (-1)) (fun _ _ => 0)
  case atStart => exact ⟨rfl, rfl⟩
  case round =>
    obtain ⟨rfl, rfl⟩ := hrel
    go_wp2
    go_end0
    exact ⟨rfl, rfl⟩
/-- A row that a call has made, from its place on: reversed. -/
theorem rev_tail (w0 w : World) (g cap : Nat) (l x : List Int) (h : RB w0 w (.slice (some ⟨g, 0, none⟩) (l ++ x).length cap) (l ++ x)) (hx : x.length < 1000000) (hB : Below w0.heap.size w0 w) :
    Calls Try.prog 90 #[.slice (some ⟨g, l.length, none⟩) x.length (cap - l.length)] w fun e w' => e = .returned (.tuple #[]) ∧ RB w0 w' (.slice (some ⟨g, 0, none⟩) (l ++ x).length cap) (l ++ x.reverse) ∧ Below w0.heap.size w0 w' := by
  have ho := Kd.own_of_R h
  obtain ⟨h1, h2⟩ := ho
  rcases h2 with ⟨h2, _⟩ | ⟨g', cap', cur, hv, hg, hh, hn, hm, hs, ht⟩
  · injection h2 with h2; cases h2
  · injection hv with e1 e2 e3
    injection e1 with e1
    injection e1 with e1
    subst e1
    subst e3
    rw [List.length_append, Nat.mul_one] at ht
    rw [List.length_append] at hn
    have hget : ∀ t, t < l.length + x.length → cur[t]? = some (.int .u8 ((l ++ x).getD t 0)) := by
      intro t ht2
      have : (cur.toList.take (l.length + x.length))[t]? = (encs (Value.int .u8) (l ++ x))[t]? := by rw [ht]
      rw [List.getElem?_take, if_pos ht2] at this
      rw [Array.getElem?_toList] at this
      rw [this]
      have h3 : t < (l ++ x).length := by simpa using ht2
      simp only [encs, List.getElem?_map, List.getD_eq_getElem?_getD, List.getElem?_eq_getElem h3]
      rfl
    refine (rev_calls g l.length x.length (cap - l.length) cur x w rfl hh (by omega) (by omega) hx (fun t ht2 => ?_)).mono ?_
    · rw [hget _ (by omega)]
      simp [List.getD_eq_getElem?_getD, List.getElem?_append_right]
    · rintro e w' ⟨rfl, hgr, cur', hh', hs', hr, hout⟩
      have e : (l ++ x).length = (l ++ x.reverse).length := by simp
      rw [e]
      refine ⟨rfl, Kd.R_of_own ⟨by simp [encs], .inr ⟨g, cap, cur', rfl, hg, hh', by simp; omega, hm, by omega, ?_⟩⟩ (fun _ _ => trivial), hB.grown hgr hB.size (by intro k hk; injection hk with hk; omega)⟩
      apply List.ext_getElem?
      intro t
      rw [List.length_append, List.length_reverse, Nat.mul_one]
      simp only [encs, List.getElem?_map]
      rcases Nat.lt_or_ge t (l.length + x.length) with hlt | hge
      · rw [List.getElem?_take, if_pos hlt, Array.getElem?_toList]
        rcases Nat.lt_or_ge t l.length with h3 | h3
        · rw [hout t (.inl h3), hget t hlt]
          simp [List.getD_eq_getElem?_getD, List.getElem?_append_left h3, List.getElem?_eq_getElem h3]
        · obtain ⟨s, rfl⟩ : ∃ s, t = l.length + s := ⟨t - l.length, by omega⟩
          rw [hr s (by omega)]
          have hlen : s < x.reverse.length := by simp; omega
          simp [List.getD_eq_getElem?_getD, List.getElem?_append_right, List.getElem?_eq_getElem hlen]
      · rw [List.getElem?_take, if_neg (by omega), List.getElem?_eq_none (by simp; omega)]
        rfl

set_option maxHeartbeats 1000000 in
theorem octet_Put_at (A : Option Addr) (c : Nat) (l : List Int) (n size q : Int) (m : Nat) (little : Bool) (w : World) (h : CB w A l) (hc : l.length ≤ c) (hl : l.length + 9 < 140737488355328) (h0 : 0 ≤ n) (h1 : n < 18446744073709551616)
    (hq : (if 8 < size then 8 else size) = q) (hm : (if q < 0 then 0 else q) = (m : Int)) (hm8 : m ≤ 8) (hmany : many size = m) :
    Calls Try.prog 44 #[.slice A l.length c, .int .u64 n, .int .i64 size, .bool little] w fun e w' => ∃ v, e = .returned v ∧ RB w w' v (l ++ putL n size little) ∧ Below w.heap.size w w' := by
  have H := Lib.hid h
  have HLen := Lib.hid hl
  have hv : putL n size little = if little then le n m else be n m := by simp [putL, hmany]
  have HV := Lib.hid hv
  clear h hl hmany hv
  go_enter Try.func44, Try.ntmps44
  go_wp2_with (go_at_call 89; refine (clone_calls _ _ _ _ H.out hc (by have := HLen.out; omega)).mono ?_; rintro e w1 ⟨v1, rfl, ho1, hb1⟩; have HO1 := Lib.hid ho1; have HB1 := Lib.hid hb1; obtain ⟨A1, c1, rfl, hc1, _⟩ := ho1.reads; clear ho1 hb1)
  go_loopw [9, 19] (fun out i wr => ∃ (k : Nat), i = .int .i64 k ∧ k ≤ m ∧ Hid (RB w wr out (l ++ le n k)) ∧ Hid (Below w.heap.size w wr)) (fun _ i _ => m - (intOf i).toNat)
  case atStart => exact ⟨0, rfl, by omega, Lib.hid (by simpa [le] using HO1.out), HB1⟩
  case round =>
    obtain ⟨k, rfl, hkm, HO, HB⟩ := hrel
    have hlen : (l ++ le n k).length < 140737488355328 := by have := HLen.out; rw [List.length_append, MOct.le_length]; omega
    have HLn := Lib.hid hlen
    clear hlen
    by_cases hlt : k < m
    · have hW : le n (k + 1) = le n k ++ [n / 2 ^ (8 * k) % 256] := by rw [MOct.shr8]; rfl
      have HW := Lib.hid hW
      clear hW
      go_wp2_with (at_builtin; refine app1 (w0 := w) _ _ rfl rfl u9 (l ++ le n k) _ rfl rfl HO.out HB.out HLn.out ?_; intro v2 w2 HO2 HB2)
      go_roundw
      case rel => exact ⟨k + 1, by go_num, by omega, Lib.hid (by rw [HW.out, ← List.append_assoc]; exact HO2.out), HB2⟩
      case measure => (simp [intOf] <;> omega)
    · have hk0 : k = m := by omega
      have ho := HO.out
      rw [hk0] at ho
      have HO3 := Lib.hid ho
      clear hk0 ho HO
      cases little with
      | true =>
        go_wp2
        go_ret
        exact ⟨_, rfl, by rw [HV.out]; exact HO3.out, HB.out⟩
      | false =>
        rcases Nat.eq_zero_or_pos m with hm0 | hm0
        · have hz : le n m = [] := by rw [hm0]; rfl
          have hz2 : be n m = [] := by rw [hm0]; rfl
          have ho := HO3.out
          rw [hz, List.append_nil] at ho
          obtain ⟨A2, c2, e2, hc2, _⟩ := ho.reads
          have HOz := Lib.hid ho
          have HZ := Lib.hid hz2
          clear hz hz2 ho hm0
          subst e2
          by_cases hcl : c2 = l.length
          · subst hcl
            go_wp2_with (go_at_call 90; refine (rev_nil_calls _ _ _).mono ?_; rintro e w3 ⟨rfl, rfl⟩)
            go_ret
            exact ⟨_, rfl, by rw [HV.out]; simpa [HZ.out] using HOz.out, HB.out⟩
          · have hlt2 : l.length < c2 := by omega
            clear hcl
            go_wp2_with (go_at_call 90; refine (rev_nil_calls _ _ _).mono ?_; rintro e w3 ⟨rfl, rfl⟩)
            go_ret
            exact ⟨_, rfl, by rw [HV.out]; simpa [HZ.out] using HOz.out, HB.out⟩
        · obtain ⟨A2, c2, e2, hc2, _⟩ := HO3.out.reads
          obtain ⟨g, cap, e3, _, _⟩ := Kd.R_form HO3.out (by rw [List.length_append, MOct.le_length]; omega)
          have hll : (l ++ le n m).length = l.length + m := by rw [List.length_append, MOct.le_length]
          rw [e3] at e2
          injection e2 with e4 _ e5
          subst e5
          subst e3
          have hrev := rev_tail w wr g cap l (le n m) HO3.out (by rw [MOct.le_length]; omega) HB.out
          rw [hll, MOct.le_length, MOct.le_reverse] at hrev
          have HR := Lib.hid hrev
          rw [hll] at hc2
          clear hrev e4 HO3
          have HLL := Lib.hid hll
          rw [hll]
          clear hll
          go_wp2_with (go_at_call 90; refine (HR.out).mono ?_; rintro e w3 ⟨rfl, hr, hb⟩; have HO4 := Lib.hid hr; have HB4 := Lib.hid hb; clear hr hb)
          go_ret
          exact ⟨_, rfl, by rw [HV.out]; exact HO4.out, HB4.out⟩

theorem octet_Put_calls (A : Option Addr) (c : Nat) (l : List Int) (n size : Int) (little : Bool) (w : World) (h : CB w A l) (hc : l.length ≤ c) (hl : l.length + 9 < 140737488355328) (h0 : 0 ≤ n) (h1 : n < 18446744073709551616) :
    Calls Try.prog 44 #[.slice A l.length c, .int .u64 n, .int .i64 size, .bool little] w fun e w' => ∃ v, e = .returned v ∧ RB w w' v (l ++ putL n size little) ∧ Below w.heap.size w w' := by
  refine octet_Put_at A c l n size (if 8 < size then 8 else size) (many size) little w h hc hl h0 h1 rfl ?_ (MOct.many_le size) rfl
  unfold many
  split <;> split <;> omega

end Go.Proofs.Ytljcingmjemohaa.K
