/- The law CellZigs, walked. -/
import Derived.Test.YtlfcgicobhalmaaBase2
import Derived.Test.YtlfcgicobhalmaaWZig
import Derived.Test.YtlfcgicobhalmaaWLaw02
import Derived.Test.YtlfcgicobhalmaaMNode
import Derived.Test.YtlfcgicobhalmaaOps
import Derived.Test.YtlfcgicobhalmaaRegGen
import Derived.Test.YtlfcgicobhalmaaWZeros
import Derived.Test.YtlfcgicobhalmaaWCell
import Derived.Test.YtlfcgicobhalmaaWCellG
import Derived.Test.YtlfcgicobhalmaaWCellB
import Derived.Lib.SlBytesConst
namespace Go.Proofs.Ytlfcgicobhalmaa.K
open Go Go.RowKit Go.Proofs.YtlfcgicobhalmaaW.PrintWords Go.Proofs.YtlfcgicobhalmaaW.PrintLast Go.Proofs.YtlfcgicobhalmaaW.PrintMore
set_option linter.unusedVariables false
set_option linter.unusedSimpArgs false
open Go.Proofs.Ytlfcgicobhalmaa.MOct (W V tk sz vr num head getV le be many putL)
open Go.Proofs.Ytlfcgicobhalmaa.MOct (Cel isPageV localV spillsV insideV leafyV mayV goodFrom goodV u64 csize cbytes nsize nbody nbytes findV)

theorem cell1 (w : World) : KC9.C ((w.alloc (.cells #[.int .u8 97, .int .u8 98] 5 (2, 3))).alloc (.cells #[.int .i64 1, .int .i64 0, .int .i64 2, .slice (some ⟨w.heap.size, 0, none⟩) 2 2, .int .i64 0] 87)) (some ⟨w.heap.size + 1, 0, none⟩) 1 [(1, 0, 2, [97, 98], 0)] := by
  have hB : CB (w.alloc (.cells #[.int .u8 97, .int .u8 98] 5 (2, 3))) (some ⟨w.heap.size, 0, none⟩) [97, 98] := by
    have hh : (w.alloc (.cells #[.int .u8 97, .int .u8 98] 5 (2, 3))).heap[w.heap.size]? = some (.cells #[.int .u8 97, .int .u8 98] 5 (2, 3)) := heap_alloc_new w _
    refine ⟨rfl, by decide, fun _ => ⟨_, rfl, fun j p hj => ⟨[.int .u8 p], rfl, rfl, fun i u hu => ?_⟩⟩⟩
    have hi : i = 0 := by
      rcases i with _ | i
      · rfl
      · simp at hu
    subst hi
    obtain rfl : Value.int .u8 p = u := by simpa using hu
    have := cell_of_row _ w.heap.size j _ 5 (2, 3) hh
    rw [show (Kd.int .u8).sz = 1 from rfl, Nat.mul_one, Nat.add_zero, add_plain, this]
    rcases j with _ | _ | j
    · simp at hj; subst hj; rfl
    · simp at hj; subst hj; rfl
    · simp at hj
  have hB2 := hB.alloc (.cells #[.int .i64 1, .int .i64 0, .int .i64 2, .slice (some ⟨w.heap.size, 0, none⟩) 2 2, .int .i64 0] 87)
  have hh := heap_alloc_new (w.alloc (.cells #[.int .u8 97, .int .u8 98] 5 (2, 3))) (.cells #[.int .i64 1, .int .i64 0, .int .i64 2, .slice (some ⟨w.heap.size, 0, none⟩) 2 2, .int .i64 0] 87)
  have hsz : (w.alloc (.cells #[.int .u8 97, .int .u8 98] 5 (2, 3))).heap.size = w.heap.size + 1 := by simp
  rw [hsz] at hh
  refine ⟨rfl, by decide, fun _ => ⟨_, rfl, fun j p hj => ?_⟩⟩
  have h0 : j = 0 := by
    rcases j with _ | j
    · rfl
    · simp at hj
  subst h0
  obtain rfl : (1, 0, 2, [97, 98], 0) = p := by simpa using hj
  refine ⟨[.int .i64 1, .int .i64 0, .int .i64 2, .slice (some ⟨w.heap.size, 0, none⟩) 2 2, .int .i64 0], rfl, ⟨_, _, rfl, rfl, _, _, rfl, rfl, _, _, rfl, rfl, _, _, rfl, ⟨_, _, rfl, by decide, hB2⟩, rfl⟩, fun i u hu => ?_⟩
  have := cell_of_row _ (w.heap.size + 1) i _ 87 (0, 0) hh
  rw [Nat.zero_mul, Nat.zero_add, add_plain, this]
  rw [← hu, ← Array.getElem?_toList]
theorem lives_nbytes : nbytes true 0 [(1, 0, 2, [97, 98], 0)] = [1, 0, 1, 0, 0, 0, 0, 2, 2, 97, 98] ++ List.replicate 501 0 := by decide +kernel
theorem lives_page (w : World) : Calls Try.prog 51 #[.agg #[.bool true, .int .i64 0, .slice (some ⟨w.heap.size + 1, 0, none⟩) 1 1]] ((w.alloc (.cells #[.int .u8 97, .int .u8 98] 5 (2, 3))).alloc (.cells #[.int .i64 1, .int .i64 0, .int .i64 2, .slice (some ⟨w.heap.size, 0, none⟩) 2 2, .int .i64 0] 87))
    fun e w' => ∃ A c, e = .returned (.slice A 512 c) ∧ 12 ≤ c ∧ 512 ≤ c ∧ (convert 23 9 (.slice A 12 c)).run Try.prog w' = .ok (.string (strOfNums [1, 0, 1, 0, 0, 0, 0, 2, 2, 97, 98, 0])) w' ∧ Below w.heap.size w w' := by
  have h := nbytes_calls true 0 [(1, 0, 2, [97, 98], 0)] (some ⟨w.heap.size + 1, 0, none⟩) 1 _ (cell1 w) (by decide) ⟨by decide, by decide⟩
  rw [lives_nbytes] at h
  refine h.mono ?_
  rintro e w' ⟨v, rfl, hr, _, hb⟩
  obtain ⟨A, c, rfl, hc, hC⟩ := page_form hr (by decide +kernel)
  refine ⟨A, c, rfl, by omega, hc, (hC.take 12 (by decide +kernel)).str, bthen (((Below.refl _ _).alloc (Nat.le_refl _) _).alloc (by simp) _) hb⟩
set_option maxRecDepth 100000 in
theorem lives09 (w : World) : Calls Try.prog 24 #[] w fun e w' => e = .returned (.bool true) ∧ Below w.heap.size w w' := by
  have b1 : ((strOfNums [1, 0, 1, 0, 0, 0, 0, 2, 2, 97, 98, 0]).toList == [1, 0, 1, 0, 0, 0, 0, 2, 2, 97, 98, 0]) = true := by decide +kernel
  have HP := Lib.hid (lives_page w)
  have hcv := Go.Lib.run_convert_bytes_const (P := Try.prog) w 23 5 #[.int .u8 97, .int .u8 98] 2 2 Try.underlying23 Try.underlying5
  go_enter Try.func24, Try.ntmps24
  go_wp2_with (go_at_call 51; refine (HP.out).mono ?_; rintro e w1 ⟨A, c, rfl, h12, h512, hs, hb⟩; have HB := Lib.hid hb; clear hb)
  go_ret
  exact ⟨rfl, HB.out⟩
set_option maxRecDepth 100000 in
theorem CellZigs_calls {w : World} (n : Int) (hn : (Lit.int .i64 n).wf = true) (z : Int) (hz : (Lit.int .u64 z).wf = true) : Calls Try.prog 5 #[.int .i64 n, .int .u64 z] w fun e w' => e = .returned (.bool true) ∧ Below w.heap.size w w' := by
  have hnr : -9223372036854775808 ≤ n ∧ n < 9223372036854775808 := by
    have h1 : IntKind.i64.min = -9223372036854775808 := rfl
    have h2 : IntKind.i64.max = 9223372036854775807 := rfl
    simp only [Lit.wf, Bool.and_eq_true, decide_eq_true_eq] at hn
    omega
  have hzr := u64_wf hz
  have hzn := MOct.zig_range n hnr.1 hnr.2
  have hzz := MOct.zag_range z hzr.1 hzr.2
  have hzl : n > -64 → n < 64 → ¬ MOct.zig n > 127 := fun h1 h2 => by unfold MOct.zig; split <;> omega
  have e1 := MOct.zag_zig n
  have e2 := MOct.zig_zag z hzr.1
  have HZ1 := Lib.hid (fun W => Zig_calls n W hnr.1 hnr.2)
  have h2 := fun W => Zag_calls (MOct.zig n) W hzn.1 hzn.2
  rw [e1] at h2
  have HZ2 := Lib.hid h2
  have HZ3 := Lib.hid (fun W => Zag_calls z W hzr.1 hzr.2)
  have h4 := fun W => Zig_calls (MOct.zag z) W hzz.1 hzz.2
  rw [e2] at h4
  have HZ4 := Lib.hid h4
  obtain ⟨zn, hzn'⟩ : ∃ zn, MOct.zig n = zn := ⟨_, rfl⟩
  obtain ⟨zz, hzz'⟩ : ∃ zz, MOct.zag z = zz := ⟨_, rfl⟩
  rw [hzn'] at HZ1 HZ2 hzl
  rw [hzz'] at HZ3 HZ4
  have b1 := beq_self_eq_true n
  have b2 := beq_self_eq_true z
  have HZL := Lib.hid hzl
  clear hn hz hnr hzr hzn hzz e1 e2 h2 h4 hzn' hzz' hzl
  by_cases c1 : n > -64
  · by_cases c2 : n < 64
    · have c3 := HZL.out c1 c2
      go_enter Try.func5, Try.ntmps5
      go_wp2_with (first
        | (go_at_call 24; refine (lives09 _).mono ?_; rintro e w4 ⟨rfl, hb4⟩; have HB4 := Lib.hid hb4; clear hb4)
        | (go_at_call_of 22 n; refine (HZ1.out _).mono ?_; rintro e w1 ⟨rfl, rfl⟩)
        | (go_at_call_of 23 zn; refine (HZ2.out _).mono ?_; rintro e w1 ⟨rfl, rfl⟩)
        | (go_at_call_of 23 z; refine (HZ3.out _).mono ?_; rintro e w1 ⟨rfl, rfl⟩)
        | (go_at_call_of 22 zz; refine (HZ4.out _).mono ?_; rintro e w1 ⟨rfl, rfl⟩))
      go_ret
      exact ⟨rfl, HB4.out⟩
    · go_enter Try.func5, Try.ntmps5
      go_wp2_with (first
        | (go_at_call 24; refine (lives09 _).mono ?_; rintro e w4 ⟨rfl, hb4⟩; have HB4 := Lib.hid hb4; clear hb4)
        | (go_at_call_of 22 n; refine (HZ1.out _).mono ?_; rintro e w1 ⟨rfl, rfl⟩)
        | (go_at_call_of 23 zn; refine (HZ2.out _).mono ?_; rintro e w1 ⟨rfl, rfl⟩)
        | (go_at_call_of 23 z; refine (HZ3.out _).mono ?_; rintro e w1 ⟨rfl, rfl⟩)
        | (go_at_call_of 22 zz; refine (HZ4.out _).mono ?_; rintro e w1 ⟨rfl, rfl⟩))
      go_ret
      exact ⟨rfl, HB4.out⟩
  · go_enter Try.func5, Try.ntmps5
    go_wp2_with (first
      | (go_at_call 24; refine (lives09 _).mono ?_; rintro e w4 ⟨rfl, hb4⟩; have HB4 := Lib.hid hb4; clear hb4)
      | (go_at_call_of 22 n; refine (HZ1.out _).mono ?_; rintro e w1 ⟨rfl, rfl⟩)
      | (go_at_call_of 23 zn; refine (HZ2.out _).mono ?_; rintro e w1 ⟨rfl, rfl⟩)
      | (go_at_call_of 23 z; refine (HZ3.out _).mono ?_; rintro e w1 ⟨rfl, rfl⟩)
      | (go_at_call_of 22 zz; refine (HZ4.out _).mono ?_; rintro e w1 ⟨rfl, rfl⟩))
    go_ret
    exact ⟨rfl, HB4.out⟩
end Go.Proofs.Ytlfcgicobhalmaa.K
