/- The law OctetOrder, walked: whatever the input, it answers true and leaves memory as it was. -/
import Derived.Test.YtlfcgicobhalmaaBase
import Derived.Test.YtlfcgicobhalmaaWPut
import Derived.Test.YtlfcgicobhalmaaReg
import Derived.WalkLawsBesides
namespace Go.Proofs.Ytlfcgicobhalmaa.K
open Go Go.RowKit Go.Proofs.Ytlfcgicobhalmaa Go.Proofs.YtlfcgicobhalmaaW.PrintWords Go.Proofs.YtlfcgicobhalmaaW.PrintLast Go.Proofs.YtlfcgicobhalmaaW.PrintMore
set_option linter.unusedVariables false
set_option linter.unusedSimpArgs false
open Go.Proofs.Ytlfcgicobhalmaa.MOct (W V tk sz vr num head getV le be many putL)
theorem var300 (w : World) : Calls Try.prog 11 #[.slice none 0 0, .int .u64 300] w fun e w' => ∃ v, e = .returned v ∧ RB w w' v [130, 44] ∧ Below w.heap.size w w' := by
  have := octet_Var_calls none 0 [] 300 w (CB.nil _) (by simp) (by simp) (by omega) (by omega)
  rw [show [] ++ vr 300 = [130, 44] by decide +kernel] at this
  exact this
theorem varMax (w : World) : Calls Try.prog 11 #[.slice none 0 0, .int .u64 18446744073709551615] w fun e w' => ∃ v, e = .returned v ∧ RB w w' v [255, 255, 255, 255, 255, 255, 255, 255, 255] ∧ Below w.heap.size w w' := by
  have := octet_Var_calls none 0 [] 18446744073709551615 w (CB.nil _) (by simp) (by simp) (by omega) (by omega)
  rw [show [] ++ vr 18446744073709551615 = [255, 255, 255, 255, 255, 255, 255, 255, 255] by decide +kernel] at this
  exact this
set_option maxHeartbeats 1000000 in
set_option maxRecDepth 100000 in
theorem lives02 (w : World) : Calls Try.prog 13 #[] w fun e w' => e = .returned (.bool true) ∧ Below w.heap.size w w' := by
  have b1 : ((strOfNums [130, 44]).toList == [130, 44]) = true := by decide +kernel
  have b2 : ((strOfNums [255, 255, 255, 255, 255, 255, 255, 255, 255]).toList == [255, 255, 255, 255, 255, 255, 255, 255, 255]) = true := by decide +kernel
  go_enter Try.func13, Try.ntmps13
  go_wp2_with (first | (go_at_call 11; with_reducible refine (var300 _).mono ?_; rintro e w1 ⟨v1, rfl, ho, hb⟩; have h1 := ho.str; have HB := Lib.hid hb; clear ho hb) | (go_at_call 11; with_reducible refine (varMax _).mono ?_; rintro e w2 ⟨v2, rfl, ho, hb⟩; have h2 := ho.str; have HB2 := Lib.hid hb; clear ho hb))
  go_ret
  exact ⟨rfl, HB.out.trans (HB2.out.mono HB.out.size)⟩

theorem var_nil (n : Int) (w : World) (h0 : 0 ≤ n) (h1 : n < 18446744073709551616) : Calls Try.prog 11 #[.slice none 0 0, .int .u64 n] w fun e w' => ∃ v, e = .returned v ∧ RB w w' v (vr n) ∧ Below w.heap.size w w' := by
  have := octet_Var_calls none 0 [] n w (CB.nil _) (by simp) (by simp) h0 h1
  simpa using this
set_option maxHeartbeats 1000000 in
set_option maxRecDepth 100000 in
theorem OctetOrder_calls {w : World} (a : Int) (ha : (Lit.int .u64 a).wf = true) (b : Int) (hb : (Lit.int .u64 b).wf = true) (A : Option Addr) (c : Nat) (l : List Int) (hC : CB w A l) (hc : l.length ≤ c) (hq : (∀ x ∈ l, (Lit.int .u8 x).wf = true) ∧ l.length ≤ 9223372036854775807) :
    Calls Try.prog 3 #[.int .u64 a, .int .u64 b, .slice A l.length c] w fun e w' => e = .returned (.bool true) ∧ Below w.heap.size w w' := by
  have HA := Lib.hid (u64_wf ha)
  have HB := Lib.hid (u64_wf hb)
  have HQ := Lib.hid (bytesOk_wf hq.1)
  have HC := Lib.hid hC
  clear hq ha hb hC
  go_enter Try.func3, Try.ntmps3
  go_upto_region 1 with (fail)
  go_cut [7, 8] (fun p q wc => p = .string (strOfNums (vr a)) ∧ q = .string (strOfNums (vr b)) ∧ Hid (Below w.heap.size w wc))
  case first =>
    go_region_with (first
      | (go_at_call_of 11 a; refine (var_nil a _ HA.out.1 HA.out.2).mono ?_; rintro e w1 ⟨v1, rfl, ho1, hb1⟩; have hs1 := ho1.str; have HO1 := Lib.hid ho1; have HB1 := Lib.hid hb1; clear ho1 hb1)
      | (go_at_call_of 11 b; refine (var_nil b _ HB.out.1 HB.out.2).mono ?_; rintro e w2 ⟨v2, rfl, ho2, hb2⟩; have hs2 := ho2.str; (try have hs12 := (HO1.out.below hb2).str); have HO2 := Lib.hid ho2; have HB2 := Lib.hid hb2; clear ho2 hb2))
    all_goals (go_wp2_with fail; go_meet; exact ⟨rfl, rfl, Lib.hid (bthen (bfrom HB1.out) HB2.out)⟩)
  case rest =>
  obtain ⟨rfl, rfl, HW⟩ := hcut
  obtain ⟨na, hna⟩ : ∃ na : Nat, na = (strOfNums (vr a)).size := ⟨_, rfl⟩
  obtain ⟨nb, hnb⟩ : ∃ nb : Nat, nb = (strOfNums (vr b)).size := ⟨_, rfl⟩
  have hsa := MOct.str_size (vr a)
  have hsb := MOct.str_size (vr b)
  have hla := MOct.vr_length a
  have hlb := MOct.vr_length b
  have hra := MOct.sz_range a
  have hrb := MOct.sz_range b
  have habl : a < b → na ≤ nb := fun h => by have := MOct.sz_le a b (by omega); omega
  have habs : a < b → na = nb → Op.bytesLess (strOfNums (vr a)).toList (strOfNums (vr b)).toList = true := fun h he => by
    rw [MOct.str_B, MOct.str_B]
    exact MOct.vr_less a b HA.out.1 h HB.out.2 (by omega)
  have HABL := Lib.hid habl
  have HABS := Lib.hid habs
  have e1 : (strOfNums (vr a)).size = na := hna.symm
  have e2 : (strOfNums (vr b)).size = nb := hnb.symm
  clear hna hnb hsa hsb hla hlb hra hrb habl habs
  go_upto_region 2 with (fail)
  go_cut [38] (fun t wc' => t = .bool false ∧ wc' = wc)
  case first =>
    by_cases hab : a < b
    · have hle := HABL.out hab
      by_cases hn : na = nb
      · have hl := HABS.out hab hn
        have b1 : ((na : Int) == nb) = true := by rw [beq_iff_eq]; omega
        have hle2 : na ≤ nb ∧ nb ≤ na := by omega
        clear hn hle
        go_wp2_with fail
        go_meet
        exact ⟨by rw [decide_eq_false (by omega)], rfl⟩
      · have b1 : ((na : Int) == nb) = false := by rw [beq_eq_false_iff_ne]; omega
        have hle2 : na < nb := by omega
        clear hn hle
        go_wp2_with fail
        go_meet
        exact ⟨by first | rfl | rw [decide_eq_false (by omega)], rfl⟩
    · go_wp2_with fail
      go_meet
      exact ⟨rfl, rfl⟩
  case rest =>
  obtain ⟨rfl, rfl⟩ := hcut
  clear HABL HABS e1 e2
  have hc1 : CB wc A l := HC.out.below HW.out
  have HC1 := Lib.hid hc1
  rcases MOct.take_tells l HQ.out with ht | ⟨n, k, ht, hk1, hkl, hn0, hn1, hvr, hsz⟩
  · have HT := Lib.hid ht
    clear ht hc1
    go_wp2_with (go_at_call 12; refine (octet_Take_calls _ _ _ _ HC1.out hc HQ.out).mono ?_; rintro e w3 ⟨rfl, rfl⟩; rw [HT.out])
    refine Reg.region_mono (P := Try.prog) (Ext := Bel) (R := fun i v W => match i with
        | 0 => v = .int .i64 0
        | 1 => v = .bool true
        | 2 => v = .bool true
        | 3 => v = undef
        | 4 => v = undef
        | 5 => v = undef
        | 6 => v = undef
        | 7 => v = undef
        | 8 => v = undef
        | 9 => v = undef
        | 10 => v = undef
        | 11 => v = undef
        | 12 => v = undef
        | 13 => v = undef
        | 14 => v = undef
        | 15 => v = undef
        | 16 => v = undef
        | 17 => v = .bool true
        | 18 => v = .bool true
        | 19 => v = .bool true
        | 20 => v = .bool true
        | 21 => v = .bool true
        | _ => True) (fun W => Below wc.heap.size wc W) rfl (by kernel_rfl) (by kernel_rfl) (Bel.drew wc) (fun W W' h h' => bthen h h') Bel.refl (by intro j v W W' hx h; split at h <;> first | exact h | exact RB.below h hx) ?_ ?_
    · intro i oi hoi a W hW need old
      match i, hoi with
      | 0, hoi =>
        simp only [List.getElem?_toArray, List.getElem?_cons_succ, List.getElem?_cons_zero, Option.some.injEq] at hoi
        subst hoi
        refine Reg.ob_plain rfl ?_
        have e10 : a.eval (.tmp 10) = .int .i64 0 := old 10 (by kernel_rfl)
        refine Reg.wp_val (W' := W) (v := _) (by simp only [execOp, e10, Reg.eval_const]; rfl) ⟨_, rfl, Bel.refl W, rfl⟩
      | 1, hoi =>
        simp only [List.getElem?_toArray, List.getElem?_cons_succ, List.getElem?_cons_zero, Option.some.injEq] at hoi
        subst hoi
        refine Reg.ob_plain rfl ?_
        have e44 : a.eval (.tmp 44) = .int .i64 0 := need 0 _ 44 rfl rfl (by kernel_rfl)
        refine Reg.wp_val (W' := W) (v := .bool true) (by simp only [execOp, e44, Reg.eval_const, resolve, invoke, builtin, List.map_toArray, List.map_cons, List.map_nil, Option.map_some, Option.map_none]; (first | rfl | go_simp | (go_simp; rfl))) ⟨_, rfl, Bel.refl W, rfl⟩
      | 2, hoi =>
        simp only [List.getElem?_toArray, List.getElem?_cons_succ, List.getElem?_cons_zero, Option.some.injEq] at hoi
        subst hoi
        refine Reg.ob_plain rfl ?_
        have e45 : a.eval (.tmp 45) = .bool true := need 1 _ 45 rfl rfl (by kernel_rfl)
        refine Reg.wp_val (W' := W) (v := _) (by simp only [execOp, e45, Reg.eval_const]; rfl) ⟨_, rfl, Bel.refl W, rfl⟩
      | 3, hoi =>
        simp only [List.getElem?_toArray, List.getElem?_cons_succ, List.getElem?_cons_zero, Option.some.injEq] at hoi
        subst hoi
        have eg : a.eval (.tmp 46) = .bool true := need 2 _ 46 rfl rfl (by kernel_rfl)
        exact Reg.ob_no rfl rfl rfl eg (by decide) rfl
      | 4, hoi =>
        simp only [List.getElem?_toArray, List.getElem?_cons_succ, List.getElem?_cons_zero, Option.some.injEq] at hoi
        subst hoi
        have eg : a.eval (.tmp 46) = .bool true := need 2 _ 46 rfl rfl (by kernel_rfl)
        exact Reg.ob_no rfl rfl rfl eg (by decide) rfl
      | 5, hoi =>
        simp only [List.getElem?_toArray, List.getElem?_cons_succ, List.getElem?_cons_zero, Option.some.injEq] at hoi
        subst hoi
        have eg : a.eval (.tmp 46) = .bool true := need 2 _ 46 rfl rfl (by kernel_rfl)
        exact Reg.ob_no rfl rfl rfl eg (by decide) rfl
      | 6, hoi =>
        simp only [List.getElem?_toArray, List.getElem?_cons_succ, List.getElem?_cons_zero, Option.some.injEq] at hoi
        subst hoi
        have eg : a.eval (.tmp 46) = .bool true := need 2 _ 46 rfl rfl (by kernel_rfl)
        exact Reg.ob_no rfl rfl rfl eg (by decide) rfl
      | 7, hoi =>
        simp only [List.getElem?_toArray, List.getElem?_cons_succ, List.getElem?_cons_zero, Option.some.injEq] at hoi
        subst hoi
        have eg : a.eval (.tmp 46) = .bool true := need 2 _ 46 rfl rfl (by kernel_rfl)
        exact Reg.ob_no rfl rfl rfl eg (by decide) rfl
      | 8, hoi =>
        simp only [List.getElem?_toArray, List.getElem?_cons_succ, List.getElem?_cons_zero, Option.some.injEq] at hoi
        subst hoi
        have eg : a.eval (.tmp 51) = undef := need 7 _ 51 rfl rfl (by kernel_rfl)
        exact Reg.ob_off rfl rfl rfl eg rfl
      | 9, hoi =>
        simp only [List.getElem?_toArray, List.getElem?_cons_succ, List.getElem?_cons_zero, Option.some.injEq] at hoi
        subst hoi
        have eg : a.eval (.tmp 51) = undef := need 7 _ 51 rfl rfl (by kernel_rfl)
        exact Reg.ob_off rfl rfl rfl eg rfl
      | 10, hoi =>
        simp only [List.getElem?_toArray, List.getElem?_cons_succ, List.getElem?_cons_zero, Option.some.injEq] at hoi
        subst hoi
        have eg : a.eval (.tmp 51) = undef := need 7 _ 51 rfl rfl (by kernel_rfl)
        exact Reg.ob_off rfl rfl rfl eg rfl
      | 11, hoi =>
        simp only [List.getElem?_toArray, List.getElem?_cons_succ, List.getElem?_cons_zero, Option.some.injEq] at hoi
        subst hoi
        have eg : a.eval (.tmp 51) = undef := need 7 _ 51 rfl rfl (by kernel_rfl)
        exact Reg.ob_off rfl rfl rfl eg rfl
      | 12, hoi =>
        simp only [List.getElem?_toArray, List.getElem?_cons_succ, List.getElem?_cons_zero, Option.some.injEq] at hoi
        subst hoi
        have eg : a.eval (.tmp 51) = undef := need 7 _ 51 rfl rfl (by kernel_rfl)
        exact Reg.ob_off rfl rfl rfl eg rfl
      | 13, hoi =>
        simp only [List.getElem?_toArray, List.getElem?_cons_succ, List.getElem?_cons_zero, Option.some.injEq] at hoi
        subst hoi
        have eg : a.eval (.tmp 51) = undef := need 7 _ 51 rfl rfl (by kernel_rfl)
        exact Reg.ob_off rfl rfl rfl eg rfl
      | 14, hoi =>
        simp only [List.getElem?_toArray, List.getElem?_cons_succ, List.getElem?_cons_zero, Option.some.injEq] at hoi
        subst hoi
        have eg : a.eval (.tmp 51) = undef := need 7 _ 51 rfl rfl (by kernel_rfl)
        exact Reg.ob_off rfl rfl rfl eg rfl
      | 15, hoi =>
        simp only [List.getElem?_toArray, List.getElem?_cons_succ, List.getElem?_cons_zero, Option.some.injEq] at hoi
        subst hoi
        have eg : a.eval (.tmp 51) = undef := need 7 _ 51 rfl rfl (by kernel_rfl)
        exact Reg.ob_off rfl rfl rfl eg rfl
      | 16, hoi =>
        simp only [List.getElem?_toArray, List.getElem?_cons_succ, List.getElem?_cons_zero, Option.some.injEq] at hoi
        subst hoi
        have eg : a.eval (.tmp 46) = .bool true := need 2 _ 46 rfl rfl (by kernel_rfl)
        exact Reg.ob_no rfl rfl rfl eg (by decide) rfl
      | 17, hoi =>
        simp only [List.getElem?_toArray, List.getElem?_cons_succ, List.getElem?_cons_zero, Option.some.injEq] at hoi
        subst hoi
        refine Reg.ob_plain rfl ?_
        have e46 : a.eval (.tmp 46) = .bool true := need 2 _ 46 rfl rfl (by kernel_rfl)
        have e60 : a.eval (.tmp 60) = undef := need 16 _ 60 rfl rfl (by kernel_rfl)
        refine Reg.wp_val (W' := W) (v := .bool true) (by simp only [execOp, e46, e60, Reg.eval_const, resolve, invoke, builtin, List.map_toArray, List.map_cons, List.map_nil, Option.map_some, Option.map_none]; (first | rfl | go_simp | (go_simp; rfl))) ⟨_, rfl, Bel.refl W, rfl⟩
      | 18, hoi =>
        simp only [List.getElem?_toArray, List.getElem?_cons_succ, List.getElem?_cons_zero, Option.some.injEq] at hoi
        subst hoi
        refine Reg.ob_plain rfl ?_
        have e61 : a.eval (.tmp 61) = .bool true := need 17 _ 61 rfl rfl (by kernel_rfl)
        refine Reg.wp_val (W' := W) (v := _) (by simp only [execOp, e61, Reg.eval_const]; rfl) ⟨_, rfl, Bel.refl W, rfl⟩
      | 19, hoi =>
        simp only [List.getElem?_toArray, List.getElem?_cons_succ, List.getElem?_cons_zero, Option.some.injEq] at hoi
        subst hoi
        have eg : a.eval (.tmp 62) = .bool true := need 18 _ 62 rfl rfl (by kernel_rfl)
        refine Reg.ob_yes rfl rfl rfl eg ?_
        refine Reg.wp_call (f := 13) (args := #[]) (by simp only [execOp, Reg.eval_const, resolve, invoke, List.map_toArray, List.map_cons, List.map_nil]; go_simp) ?_
        refine (lives02 _).mono ?_
        rintro e W' ⟨rfl, hb⟩; exact ⟨_, rfl, _, rfl, hb, rfl⟩
      | 20, hoi =>
        simp only [List.getElem?_toArray, List.getElem?_cons_succ, List.getElem?_cons_zero, Option.some.injEq] at hoi
        subst hoi
        refine Reg.ob_plain rfl ?_
        have e62 : a.eval (.tmp 62) = .bool true := need 18 _ 62 rfl rfl (by kernel_rfl)
        have e63 : a.eval (.tmp 63) = .bool true := need 19 _ 63 rfl rfl (by kernel_rfl)
        refine Reg.wp_val (W' := W) (v := .bool true) (by simp only [execOp, e62, e63, Reg.eval_const, resolve, invoke, builtin, List.map_toArray, List.map_cons, List.map_nil, Option.map_some, Option.map_none]; (first | rfl | go_simp | (go_simp; rfl))) ⟨_, rfl, Bel.refl W, rfl⟩
      | 21, hoi =>
        simp only [List.getElem?_toArray, List.getElem?_cons_succ, List.getElem?_cons_zero, Option.some.injEq] at hoi
        subst hoi
        refine Reg.ob_plain rfl ?_
        have e64 : a.eval (.tmp 64) = .bool true := need 20 _ 64 rfl rfl (by kernel_rfl)
        refine Reg.wp_val (W' := W) (v := _) (by simp only [execOp, e64, Reg.eval_const]; rfl) ⟨_, rfl, Bel.refl W, rfl⟩
      | n + 22, hoi => simp at hoi
    · intro a W hW hsize hdef got same did


      have h21 := got 21 _ 6 rfl rfl
      simp only at h21
      go_wp2
      refine bodyPost_ret (results_tmp rfl _ _ _) (hdef.trans rfl) ?_
      rw [h21]
      exact ⟨rfl, bthen HW.out hW⟩
  · have hsx : ∀ W : World, Below wc.heap.size wc W → (convert 23 9 (.slice A k c)).run Try.prog W = .ok (.string (strOfNums (l.take k))) W := fun W hW => by
      have := ((hc1.below hW).take k hkl).str (c := c)
      rwa [List.length_take, Nat.min_eq_left hkl] at this
    have HT := Lib.hid ht
    have HSX := Lib.hid hsx
    have HN := Lib.hid (And.intro hn0 hn1)
    have HV := Lib.hid hvr
    have hk0 : ((k : Int) == 0) = false := by rw [beq_eq_false_iff_ne]; omega
    have hsx0 := hsx wc.drew (Below.refl _ _).drew
    clear ht hc1 hn0 hn1 hvr hsz hsx
    go_wp2_with (go_at_call 12; refine (octet_Take_calls _ _ _ _ HC1.out hc HQ.out).mono ?_; rintro e w3 ⟨rfl, rfl⟩; rw [HT.out])
    have hbb : ((strOfNums (l.take k)).toList == (strOfNums (l.take k)).toList) = true := beq_self_eq_true _
    have hk1l : (k : Int) ≤ l.length := by omega
    refine Reg.region_mono (P := Try.prog) (Ext := Bel) (R := fun i v W => match i with
        | 0 => v = .int .i64 (k : Int)
        | 1 => v = .bool false
        | 2 => v = .bool false
        | 3 => v = .int .i64 (k : Int)
        | 4 => v = .slice A l.length c
        | 5 => v = .int .i64 ↑l.length
        | 6 => v = .bool true
        | 7 => v = .bool true
        | 8 => v = .int .u64 n
        | 9 => RB w W v (l.take k)
        | 10 => v = .string (strOfNums (l.take k))
        | 11 => v = .slice A l.length c
        | 12 => v = .int .i64 (k : Int)
        | 13 => v = .slice A k c
        | 14 => v = .string (strOfNums (l.take k))
        | 15 => v = .bool true
        | 16 => v = .bool true
        | 17 => v = .bool true
        | 18 => v = .bool true
        | 19 => v = .bool true
        | 20 => v = .bool true
        | 21 => v = .bool true
        | _ => True) (fun W => Below wc.heap.size wc W) rfl (by kernel_rfl) (by kernel_rfl) (Bel.drew wc) (fun W W' h h' => bthen h h') Bel.refl (by intro j v W W' hx h; split at h <;> first | exact h | exact RB.below h hx) ?_ ?_
    · intro i oi hoi a W hW need old
      match i, hoi with
      | 0, hoi =>
        simp only [List.getElem?_toArray, List.getElem?_cons_succ, List.getElem?_cons_zero, Option.some.injEq] at hoi
        subst hoi
        refine Reg.ob_plain rfl ?_
        have e10 : a.eval (.tmp 10) = .int .i64 (k : Int) := old 10 (by kernel_rfl)
        refine Reg.wp_val (W' := W) (v := _) (by simp only [execOp, e10, Reg.eval_const]; rfl) ⟨_, rfl, Bel.refl W, rfl⟩
      | 1, hoi =>
        simp only [List.getElem?_toArray, List.getElem?_cons_succ, List.getElem?_cons_zero, Option.some.injEq] at hoi
        subst hoi
        refine Reg.ob_plain rfl ?_
        have e44 : a.eval (.tmp 44) = .int .i64 (k : Int) := need 0 _ 44 rfl rfl (by kernel_rfl)
        refine Reg.wp_val (W' := W) (v := .bool false) (by simp only [execOp, e44, Reg.eval_const, resolve, invoke, builtin, List.map_toArray, List.map_cons, List.map_nil, Option.map_some, Option.map_none]; (first | rfl | go_simp | (go_simp; rfl))) ⟨_, rfl, Bel.refl W, rfl⟩
      | 2, hoi =>
        simp only [List.getElem?_toArray, List.getElem?_cons_succ, List.getElem?_cons_zero, Option.some.injEq] at hoi
        subst hoi
        refine Reg.ob_plain rfl ?_
        have e45 : a.eval (.tmp 45) = .bool false := need 1 _ 45 rfl rfl (by kernel_rfl)
        refine Reg.wp_val (W' := W) (v := _) (by simp only [execOp, e45, Reg.eval_const]; rfl) ⟨_, rfl, Bel.refl W, rfl⟩
      | 3, hoi =>
        simp only [List.getElem?_toArray, List.getElem?_cons_succ, List.getElem?_cons_zero, Option.some.injEq] at hoi
        subst hoi
        have eg : a.eval (.tmp 46) = .bool false := need 2 _ 46 rfl rfl (by kernel_rfl)
        refine Reg.ob_yes rfl rfl rfl eg ?_
        have e10 : a.eval (.tmp 10) = .int .i64 (k : Int) := old 10 (by kernel_rfl)
        refine Reg.wp_val (W' := W) (v := _) (by simp only [execOp, e10, Reg.eval_const]; rfl) ⟨_, rfl, Bel.refl W, rfl⟩
      | 4, hoi =>
        simp only [List.getElem?_toArray, List.getElem?_cons_succ, List.getElem?_cons_zero, Option.some.injEq] at hoi
        subst hoi
        have eg : a.eval (.tmp 46) = .bool false := need 2 _ 46 rfl rfl (by kernel_rfl)
        refine Reg.ob_yes rfl rfl rfl eg ?_
        have e2 : a.eval (.tmp 2) = .slice A l.length c := old 2 (by kernel_rfl)
        refine Reg.wp_val (W' := W) (v := _) (by simp only [execOp, e2, Reg.eval_const]; rfl) ⟨_, rfl, Bel.refl W, rfl⟩
      | 5, hoi =>
        simp only [List.getElem?_toArray, List.getElem?_cons_succ, List.getElem?_cons_zero, Option.some.injEq] at hoi
        subst hoi
        have eg : a.eval (.tmp 46) = .bool false := need 2 _ 46 rfl rfl (by kernel_rfl)
        refine Reg.ob_yes rfl rfl rfl eg ?_
        have e48 : a.eval (.tmp 48) = .slice A l.length c := need 4 _ 48 rfl rfl (by kernel_rfl)
        refine Reg.wp_val (W' := W) (v := .int .i64 ↑l.length) (by simp only [execOp, e48, Reg.eval_const, resolve, invoke, builtin, List.map_toArray, List.map_cons, List.map_nil, Option.map_some, Option.map_none]; (first | rfl | go_simp | (go_simp; rfl))) ⟨_, rfl, Bel.refl W, rfl⟩
      | 6, hoi =>
        simp only [List.getElem?_toArray, List.getElem?_cons_succ, List.getElem?_cons_zero, Option.some.injEq] at hoi
        subst hoi
        have eg : a.eval (.tmp 46) = .bool false := need 2 _ 46 rfl rfl (by kernel_rfl)
        refine Reg.ob_yes rfl rfl rfl eg ?_
        have e47 : a.eval (.tmp 47) = .int .i64 (k : Int) := need 3 _ 47 rfl rfl (by kernel_rfl)
        have e49 : a.eval (.tmp 49) = .int .i64 ↑l.length := need 5 _ 49 rfl rfl (by kernel_rfl)
        refine Reg.wp_val (W' := W) (v := .bool true) (by simp only [execOp, e47, e49, Reg.eval_const, resolve, invoke, builtin, List.map_toArray, List.map_cons, List.map_nil, Option.map_some, Option.map_none]; (first | rfl | go_simp | (go_simp; rfl))) ⟨_, rfl, Bel.refl W, rfl⟩
      | 7, hoi =>
        simp only [List.getElem?_toArray, List.getElem?_cons_succ, List.getElem?_cons_zero, Option.some.injEq] at hoi
        subst hoi
        have eg : a.eval (.tmp 46) = .bool false := need 2 _ 46 rfl rfl (by kernel_rfl)
        refine Reg.ob_yes rfl rfl rfl eg ?_
        have e50 : a.eval (.tmp 50) = .bool true := need 6 _ 50 rfl rfl (by kernel_rfl)
        refine Reg.wp_val (W' := W) (v := _) (by simp only [execOp, e50, Reg.eval_const]; rfl) ⟨_, rfl, Bel.refl W, rfl⟩
      | 8, hoi =>
        simp only [List.getElem?_toArray, List.getElem?_cons_succ, List.getElem?_cons_zero, Option.some.injEq] at hoi
        subst hoi
        have eg : a.eval (.tmp 51) = .bool true := need 7 _ 51 rfl rfl (by kernel_rfl)
        refine Reg.ob_yes rfl rfl rfl eg ?_
        have e9 : a.eval (.tmp 9) = .int .u64 n := old 9 (by kernel_rfl)
        refine Reg.wp_val (W' := W) (v := _) (by simp only [execOp, e9, Reg.eval_const]; rfl) ⟨_, rfl, Bel.refl W, rfl⟩
      | 9, hoi =>
        simp only [List.getElem?_toArray, List.getElem?_cons_succ, List.getElem?_cons_zero, Option.some.injEq] at hoi
        subst hoi
        have eg : a.eval (.tmp 51) = .bool true := need 7 _ 51 rfl rfl (by kernel_rfl)
        refine Reg.ob_yes rfl rfl rfl eg ?_
        have e52 : a.eval (.tmp 52) = .int .u64 n := need 8 _ 52 rfl rfl (by kernel_rfl)
        refine Reg.wp_call (f := 11) (args := #[.slice none 0 0, .int .u64 n]) (by simp only [execOp, e52, Reg.eval_const, resolve, invoke, List.map_toArray, List.map_cons, List.map_nil]; go_simp) ?_
        refine (var_nil _ _ HN.out.1 HN.out.2).mono ?_
        rw [HV.out]; rintro e W' ⟨v, rfl, ho, hb⟩; exact ⟨v, rfl, v, rfl, hb, ho.lower (Nat.le_trans HW.out.size hW.size)⟩
      | 10, hoi =>
        simp only [List.getElem?_toArray, List.getElem?_cons_succ, List.getElem?_cons_zero, Option.some.injEq] at hoi
        subst hoi
        have eg : a.eval (.tmp 51) = .bool true := need 7 _ 51 rfl rfl (by kernel_rfl)
        refine Reg.ob_yes rfl rfl rfl eg ?_
        have r53 := need 9 _ 53 rfl rfl (by kernel_rfl)
        simp only at r53
        obtain ⟨x53, e53⟩ : ∃ x, a.eval (.tmp 53) = x := ⟨_, rfl⟩
        rw [← Reg.eval_tmp, e53] at r53
        have hs := r53.str
        refine Reg.wp_val (W' := W) (v := .string (strOfNums (l.take k))) (by simp only [execOp, e53, Reg.eval_const, resolve, invoke, builtin, List.map_toArray, List.map_cons, List.map_nil, Option.map_some, Option.map_none]; (first | rfl | go_simp | (go_simp; rfl))) ⟨_, rfl, Bel.refl W, rfl⟩
      | 11, hoi =>
        simp only [List.getElem?_toArray, List.getElem?_cons_succ, List.getElem?_cons_zero, Option.some.injEq] at hoi
        subst hoi
        have eg : a.eval (.tmp 51) = .bool true := need 7 _ 51 rfl rfl (by kernel_rfl)
        refine Reg.ob_yes rfl rfl rfl eg ?_
        have e2 : a.eval (.tmp 2) = .slice A l.length c := old 2 (by kernel_rfl)
        refine Reg.wp_val (W' := W) (v := _) (by simp only [execOp, e2, Reg.eval_const]; rfl) ⟨_, rfl, Bel.refl W, rfl⟩
      | 12, hoi =>
        simp only [List.getElem?_toArray, List.getElem?_cons_succ, List.getElem?_cons_zero, Option.some.injEq] at hoi
        subst hoi
        have eg : a.eval (.tmp 51) = .bool true := need 7 _ 51 rfl rfl (by kernel_rfl)
        refine Reg.ob_yes rfl rfl rfl eg ?_
        have e10 : a.eval (.tmp 10) = .int .i64 (k : Int) := old 10 (by kernel_rfl)
        refine Reg.wp_val (W' := W) (v := _) (by simp only [execOp, e10, Reg.eval_const]; rfl) ⟨_, rfl, Bel.refl W, rfl⟩
      | 13, hoi =>
        simp only [List.getElem?_toArray, List.getElem?_cons_succ, List.getElem?_cons_zero, Option.some.injEq] at hoi
        subst hoi
        have eg : a.eval (.tmp 51) = .bool true := need 7 _ 51 rfl rfl (by kernel_rfl)
        refine Reg.ob_yes rfl rfl rfl eg ?_
        have e55 : a.eval (.tmp 55) = .slice A l.length c := need 11 _ 55 rfl rfl (by kernel_rfl)
        have e56 : a.eval (.tmp 56) = .int .i64 (k : Int) := need 12 _ 56 rfl rfl (by kernel_rfl)
        have hkc : ¬ c < k := by omega
        refine Reg.wp_val (W' := W) (v := .slice A k c) (by simp only [execOp, e55, e56, Reg.eval_const, resolve, invoke, builtin, List.map_toArray, List.map_cons, List.map_nil, Option.map_some, Option.map_none]; (first | rfl | go_simp | (go_simp; rfl))) ⟨_, rfl, Bel.refl W, rfl⟩
      | 14, hoi =>
        simp only [List.getElem?_toArray, List.getElem?_cons_succ, List.getElem?_cons_zero, Option.some.injEq] at hoi
        subst hoi
        have eg : a.eval (.tmp 51) = .bool true := need 7 _ 51 rfl rfl (by kernel_rfl)
        refine Reg.ob_yes rfl rfl rfl eg ?_
        have e57 : a.eval (.tmp 57) = .slice A k c := need 13 _ 57 rfl rfl (by kernel_rfl)
        have hs := HSX.out W hW
        refine Reg.wp_val (W' := W) (v := .string (strOfNums (l.take k))) (by simp only [execOp, e57, Reg.eval_const, resolve, invoke, builtin, List.map_toArray, List.map_cons, List.map_nil, Option.map_some, Option.map_none]; (first | rfl | go_simp | (go_simp; rfl))) ⟨_, rfl, Bel.refl W, rfl⟩
      | 15, hoi =>
        simp only [List.getElem?_toArray, List.getElem?_cons_succ, List.getElem?_cons_zero, Option.some.injEq] at hoi
        subst hoi
        have eg : a.eval (.tmp 51) = .bool true := need 7 _ 51 rfl rfl (by kernel_rfl)
        refine Reg.ob_yes rfl rfl rfl eg ?_
        have e54 : a.eval (.tmp 54) = .string (strOfNums (l.take k)) := need 10 _ 54 rfl rfl (by kernel_rfl)
        have e58 : a.eval (.tmp 58) = .string (strOfNums (l.take k)) := need 14 _ 58 rfl rfl (by kernel_rfl)
        refine Reg.wp_val (W' := W) (v := .bool true) (by simp only [execOp, e54, e58, Reg.eval_const, resolve, invoke, builtin, List.map_toArray, List.map_cons, List.map_nil, Option.map_some, Option.map_none]; (first | rfl | go_simp | (go_simp; rfl))) ⟨_, rfl, Bel.refl W, rfl⟩
      | 16, hoi =>
        simp only [List.getElem?_toArray, List.getElem?_cons_succ, List.getElem?_cons_zero, Option.some.injEq] at hoi
        subst hoi
        have eg : a.eval (.tmp 46) = .bool false := need 2 _ 46 rfl rfl (by kernel_rfl)
        refine Reg.ob_yes rfl rfl rfl eg ?_
        have e51 : a.eval (.tmp 51) = .bool true := need 7 _ 51 rfl rfl (by kernel_rfl)
        have e59 : a.eval (.tmp 59) = .bool true := need 15 _ 59 rfl rfl (by kernel_rfl)
        refine Reg.wp_val (W' := W) (v := .bool true) (by simp only [execOp, e51, e59, Reg.eval_const, resolve, invoke, builtin, List.map_toArray, List.map_cons, List.map_nil, Option.map_some, Option.map_none]; (first | rfl | go_simp | (go_simp; rfl))) ⟨_, rfl, Bel.refl W, rfl⟩
      | 17, hoi =>
        simp only [List.getElem?_toArray, List.getElem?_cons_succ, List.getElem?_cons_zero, Option.some.injEq] at hoi
        subst hoi
        refine Reg.ob_plain rfl ?_
        have e46 : a.eval (.tmp 46) = .bool false := need 2 _ 46 rfl rfl (by kernel_rfl)
        have e60 : a.eval (.tmp 60) = .bool true := need 16 _ 60 rfl rfl (by kernel_rfl)
        refine Reg.wp_val (W' := W) (v := .bool true) (by simp only [execOp, e46, e60, Reg.eval_const, resolve, invoke, builtin, List.map_toArray, List.map_cons, List.map_nil, Option.map_some, Option.map_none]; (first | rfl | go_simp | (go_simp; rfl))) ⟨_, rfl, Bel.refl W, rfl⟩
      | 18, hoi =>
        simp only [List.getElem?_toArray, List.getElem?_cons_succ, List.getElem?_cons_zero, Option.some.injEq] at hoi
        subst hoi
        refine Reg.ob_plain rfl ?_
        have e61 : a.eval (.tmp 61) = .bool true := need 17 _ 61 rfl rfl (by kernel_rfl)
        refine Reg.wp_val (W' := W) (v := _) (by simp only [execOp, e61, Reg.eval_const]; rfl) ⟨_, rfl, Bel.refl W, rfl⟩
      | 19, hoi =>
        simp only [List.getElem?_toArray, List.getElem?_cons_succ, List.getElem?_cons_zero, Option.some.injEq] at hoi
        subst hoi
        have eg : a.eval (.tmp 62) = .bool true := need 18 _ 62 rfl rfl (by kernel_rfl)
        refine Reg.ob_yes rfl rfl rfl eg ?_
        refine Reg.wp_call (f := 13) (args := #[]) (by simp only [execOp, Reg.eval_const, resolve, invoke, List.map_toArray, List.map_cons, List.map_nil]; go_simp) ?_
        refine (lives02 _).mono ?_
        rintro e W' ⟨rfl, hb⟩; exact ⟨_, rfl, _, rfl, hb, rfl⟩
      | 20, hoi =>
        simp only [List.getElem?_toArray, List.getElem?_cons_succ, List.getElem?_cons_zero, Option.some.injEq] at hoi
        subst hoi
        refine Reg.ob_plain rfl ?_
        have e62 : a.eval (.tmp 62) = .bool true := need 18 _ 62 rfl rfl (by kernel_rfl)
        have e63 : a.eval (.tmp 63) = .bool true := need 19 _ 63 rfl rfl (by kernel_rfl)
        refine Reg.wp_val (W' := W) (v := .bool true) (by simp only [execOp, e62, e63, Reg.eval_const, resolve, invoke, builtin, List.map_toArray, List.map_cons, List.map_nil, Option.map_some, Option.map_none]; (first | rfl | go_simp | (go_simp; rfl))) ⟨_, rfl, Bel.refl W, rfl⟩
      | 21, hoi =>
        simp only [List.getElem?_toArray, List.getElem?_cons_succ, List.getElem?_cons_zero, Option.some.injEq] at hoi
        subst hoi
        refine Reg.ob_plain rfl ?_
        have e64 : a.eval (.tmp 64) = .bool true := need 20 _ 64 rfl rfl (by kernel_rfl)
        refine Reg.wp_val (W' := W) (v := _) (by simp only [execOp, e64, Reg.eval_const]; rfl) ⟨_, rfl, Bel.refl W, rfl⟩
      | n + 22, hoi => simp at hoi
    · intro a W hW hsize hdef got same did


      have h21 := got 21 _ 6 rfl rfl
      simp only at h21
      go_wp2
      refine bodyPost_ret (results_tmp rfl _ _ _) (hdef.trans rfl) ?_
      rw [h21]
      exact ⟨rfl, bthen HW.out hW⟩
end Go.Proofs.Ytlfcgicobhalmaa.K
