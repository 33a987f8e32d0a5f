/- WkbEncodes walked. -/
import Derived.Test.YtfknhpgelleenaaDoorKB
import Derived.Handy
import Derived.Test.YtfknhpgelleenaaDoorWShp
import Derived.Test.YtfknhpgelleenaaDoorWLight
import Derived.Test.YtfknhpgelleenaaDoorWWkb2
namespace Go.Proofs.YtfknhpgelleenaaDoor.K
open Go Go.RowKit Go.Proofs.YtfknhpgelleenaaDoorW.PrintWords Go.Proofs.YtfknhpgelleenaaDoorW.PrintLast Go.Proofs.YtfknhpgelleenaaDoorW.PrintMore
set_option linter.unusedVariables false
set_option linter.unusedSimpArgs false
open Go.Proofs.YtfknhpgelleenaaDoor.MShape (Sh flats light)
theorem rings_same : ∀ l : List Sh, (MWkb.ringsE true l).length = (MWkb.ringsE false l).length
  | [] => by simp [MWkb.ringsE]
  | p :: l => by
    have h := rings_same l
    simp only [MWkb.ringsE, List.length_append, MWkb.run_len]
    omega
mutual
theorem enc_same : ∀ s : Sh, (MWkb.enc true s).length = (MWkb.enc false s).length
  | .mk k pts ps => by
    have h1 := encs_same ps
    have h2 := rings_same ps
    simp only [MWkb.enc, List.length_cons, List.length_append, MWkb.nm4]
    split
    · rw [MWkb.pt_len, MWkb.pt_len]
    · split
      · rw [MWkb.run_len, MWkb.run_len]
      · simp only [List.length_append, MWkb.nm4]
        split
        · rw [h2]
        · rw [h1]
theorem encs_same : ∀ l : List Sh, (MWkb.encs true l).length = (MWkb.encs false l).length
  | [] => by simp [MWkb.encs]
  | p :: l => by
    have h1 := enc_same p
    have h2 := encs_same l
    simp only [MWkb.encs, List.length_append]
    omega
end
theorem encB_same (o : Bool) (s : Sh) : (encB o s).length = (encB false s).length := by
  cases o
  · rfl
  · unfold encB
    split
    · exact enc_same s
    · rfl
theorem encB_dark {s : Sh} (h : light s = false) (o : Bool) : encB o s = [] := by
  unfold encB
  rw [if_neg]
  intro e
  rw [check_light e] at h
  cases h
set_option maxHeartbeats 4000000 in
set_option maxRecDepth 100000 in
theorem encodes_calls (D : Nat) (s : Sh) (c : Value × Value × Value) (o : Bool) (w : World) (hw2 : 2 ≤ w.heap.size) (hs : ShB w.heap.size w D c s) (hF : FormsAt w) (hN : NowAt w) :
    Calls Tryd.prog 7 #[.agg #[c.1, c.2.1, c.2.2], .bool o] w fun e w' => e = .returned (.bool true) ∧ Bel w w' := by
  have HL := Lib.hid (fun w1 h => rLight_calls D s c w1 w.heap.size h)
  have HE := Lib.hid (fun oo W h1 h2 h3 h4 h5 => encode_calls D s c oo W w.heap.size h1 h2 h3 h4 h5)
  have HR := Lib.hid (fun W h1 h2 => rencode_calls D s c o W w.heap.size h1 h2)
  have HZ := Lib.hid (fun W h1 h2 h3 h4 h5 => size_calls D s c W w.heap.size h1 h2 h3 h4 h5)
  have HS := Lib.hid hs
  obtain ⟨kd, u1, u2, u3, u4, u5, u6, rfl⟩ := hs.forms
  dsimp only at HL HE HR HZ HS ⊢
  have HF := Lib.hid hF
  have HN := Lib.hid hN
  have HW2 := Lib.hid hw2
  clear hs hF hN hw2
  have S := Blk.new w #[.int .i64 kd, .slice u1 u2 u3, .slice u4 u5 u6] 25
  have HB : Hid (Bel w (w.alloc (.cells #[.int .i64 kd, .slice u1 u2 u3, .slice u4 u5 u6] 25))) := Lib.hid ((Bel.refl w).alloc (Nat.le_refl _) _)
  go_enter Tryd.func7, Tryd.ntmps7
  go_upto_region 1 with (fail)
  obtain ⟨W1, hW⟩ : ∃ X, w.alloc (.cells #[.int .i64 kd, .slice u1 u2 u3, .slice u4 u5 u6] 25) = X := ⟨_, rfl⟩
  rw [hW] at S HB ⊢
  have HLV : Hid (∀ W', Bel W1 W' → Calls Tryd.prog 37 #[] W' fun e w'' => e = .returned (.bool true) ∧ Bel W' w'') := Lib.hid (fun W' h => lives14 W' (by have := HB.out.size; have := h.size; have := HW2.out; omega) (HF.out.bel (bthen HB.out h)) (HN.out.below HW2.out (bthen HB.out h)))
  have HE1 : Hid (∀ W', Bel W1 W' → Calls Tryd.prog 35 #[.agg #[.int .i64 kd, .slice u1 u2 u3, .slice u4 u5 u6], .bool o] W' fun e w'' => ∃ v, e = .returned v ∧ Hid (RB W' w'' v (encB o s)) ∧ Hid (Bel W' w'')) := Lib.hid (fun W' h => HE.out o W' (bthen HB.out h).size (by have := (bthen HB.out h).size; have := HW2.out; omega) (HS.out.keep (KeepB.bel (bthen HB.out h))) (HF.out.bel (bthen HB.out h)) (HN.out.below HW2.out (bthen HB.out h)))
  have HZ1 : Hid (∀ W', Bel W1 W' → Calls Tryd.prog 36 #[.agg #[.int .i64 kd, .slice u1 u2 u3, .slice u4 u5 u6]] W' fun e w'' => e = .returned (.int .i64 (encB o s).length) ∧ Bel W' w'') := Lib.hid (fun W' h => by
    have h9 := HZ.out W' (bthen HB.out h).size (by have := (bthen HB.out h).size; have := HW2.out; omega) (HS.out.keep (KeepB.bel (bthen HB.out h))) (HF.out.bel (bthen HB.out h)) (HN.out.below HW2.out (bthen HB.out h))
    rw [← encB_same o s] at h9
    exact h9)
  have HR1 : Hid (∀ W', Bel W1 W' → Calls Tryd.prog 38 #[.agg #[.int .i64 kd, .slice u1 u2 u3, .slice u4 u5 u6], .bool o] W' fun e w'' => ∃ v, e = .returned v ∧ Hid (RB W' w'' v (encB o s)) ∧ Hid (Bel W' w'')) := Lib.hid (fun W' h => HR.out W' (bthen HB.out h).size (HS.out.keep (KeepB.bel (bthen HB.out h))))
  obtain ⟨gs, hg⟩ : ∃ X, w.heap.size = X := ⟨_, rfl⟩
  have HGS := Lib.hid hg
  have HC1 := Lib.hid (HL.out W1 HB.out.size (HS.out.keep (KeepB.bel HB.out)))
  rw [hg] at S ⊢
  clear hW hg
  obtain ⟨s0, s1, s2⟩ := Blk.cells3 S
  have HSB := Lib.hid S
  clear S HL HE HR HZ
  cases hl : light s
  · have hX := encB_dark hl o
    rw [hl] at HC1
    rw [hX] at HE1 HZ1
    clear hX hl
    go_wp2_with (first
      | (go_at_call 37; refine (HLV.out _ hb4.out).mono ?_; rintro e W5 ⟨rfl, hb5⟩)
      | (go_at_call 36; refine (HZ1.out W3 hb3.out).mono ?_; rintro e W4 ⟨rfl, hb4⟩; have hb4 := Lib.hid (bthen hb3.out hb4))
      | (go_at_call 35; refine (HE1.out W2 hb2.out).mono ?_; rintro e W3 ⟨v3, rfl, hr3, hb3⟩; obtain ⟨A3, c3, hv3, -, -⟩ := hr3.out.reads; subst hv3; have hb3 := Lib.hid (bthen hb2.out hb3.out); clear s0 s1 s2; obtain ⟨s0, s1, s2⟩ := Blk.cells3 (Blk.bel HSB.out hb3.out))
      | (go_at_call 15; refine (HC1.out).mono ?_; rintro e W2 ⟨rfl, hb2⟩; have hb2 := Lib.hid hb2; clear s0 s1 s2; obtain ⟨s0, s1, s2⟩ := Blk.cells3 (Blk.bel HSB.out hb2.out)))
    go_ret
    exact ⟨by first | rfl | simp, bthen HB.out (bthen hb4.out hb5)⟩
  rw [hl] at HC1
  clear hl
  obtain ⟨X, hX⟩ : ∃ X, encB o s = X := ⟨_, rfl⟩
  rw [hX] at HE1 HZ1 HR1
  clear hX
  go_upto_region 4 with (first
    | (go_at_call 38; refine (HR1.out W2 hb2.out).mono ?_; rintro e W3 ⟨v3, rfl, hr3, hb3⟩)
    | (go_at_call 15; refine (HC1.out).mono ?_; rintro e W2 ⟨rfl, hb2⟩; have hb2 := Lib.hid hb2; clear s0 s1 s2; obtain ⟨s0, s1, s2⟩ := Blk.cells3 (Blk.bel HSB.out hb2.out)))
  have HB3 := Lib.hid (bthen hb2.out hb3.out)
  obtain ⟨A6, c6, hv6, hc6, hC6⟩ := hr3.out.reads
  subst hv6
  have HCX := Lib.hid hC6
  have HS6 := Lib.hid (Blk.bel HSB.out HB3.out)
  clear s0 s1 s2 hr3 hb3 hb2 hC6 hc6
  obtain ⟨w5, hW⟩ : ∃ X, W3 = X := ⟨_, rfl⟩
  subst hW
  have HEN : Hid (∀ W', Bel W3 W' → Calls Tryd.prog 35 #[.agg #[.int .i64 kd, .slice u1 u2 u3, .slice u4 u5 u6], .bool o] W' fun e w'' => ∃ v, e = .returned v ∧ Hid (RB W' w'' v X) ∧ Hid (Bel W' w'')) := Lib.hid (fun W' h => HE1.out W' (bthen HB3.out h))
  have HSI : Hid (∀ W', Bel W3 W' → Calls Tryd.prog 36 #[.agg #[.int .i64 kd, .slice u1 u2 u3, .slice u4 u5 u6]] W' fun e w'' => e = .returned (.int .i64 X.length) ∧ Bel W' w'') := Lib.hid (fun W' h => HZ1.out W' (bthen HB3.out h))
  have HLV : Hid (∀ W', Bel W3 W' → Calls Tryd.prog 37 #[] W' fun e w'' => e = .returned (.bool true) ∧ Bel W' w'') := Lib.hid (fun W' h => HLV.out W' (bthen HB3.out h))
  refine Reg.region_mono (P := Tryd.prog) (Ext := Bel) (R := fun i v W => match i with
      | 0 => v = .agg #[.int .i64 kd, .slice u1 u2 u3, .slice u4 u5 u6]
      | 1 => v = .bool o
      | 2 => RB W3 W v X
      | 3 => v = .string (strOfNums X)
      | 4 => v = .slice A6 X.length c6
      | 5 => v = .string (strOfNums X)
      | 6 => v = .bool true
      | 7 => v = .bool true
      | 8 => v = .agg #[.int .i64 kd, .slice u1 u2 u3, .slice u4 u5 u6]
      | 9 => v = .int .i64 ↑X.length
      | 10 => v = .slice A6 X.length c6
      | 11 => v = .int .i64 ↑X.length
      | 12 => v = .bool true
      | 13 => v = .bool true
      | 14 => v = .bool true
      | 15 => v = .bool true
      | 16 => v = .bool true
      | 17 => v = .bool true
      | _ => True) (fun W => Below W3.heap.size W3 W) rfl (by kernel_rfl) (by kernel_rfl) (Bel.drew W3) (fun W W' h h' => bthen h h') Bel.refl (by intro j v W W' hx h; split at h <;> first | exact h | exact RB.below h hx) ?_ ?_
  · intro i oi hoi a W hW need old
    match i, hoi with
    | 0, hoi =>
      simp only [List.getElem?_toArray, List.getElem?_cons_succ, List.getElem?_cons_zero, Option.some.injEq] at hoi
      subst hoi
      refine Reg.ob_plain rfl ?_
      have e2 : a.eval (.tmp 2) = .pointer (some ⟨gs, 0, none⟩) := old 2 (by kernel_rfl)
      obtain ⟨c0, c1, c2⟩ := Blk.cells3 (Blk.bel HS6.out hW)
      refine Reg.wp_val (W' := W) (v := .agg #[.int .i64 kd, .slice u1 u2 u3, .slice u4 u5 u6]) (by simp only [execOp, e2, Reg.eval_const, resolve, invoke, builtin, List.map_toArray, List.map_cons, List.map_nil, Option.map_some, Option.map_none]; (first | rfl | go_simp | (go_simp; rfl))) ⟨_, rfl, Bel.refl W, rfl⟩
    | 1, hoi =>
      simp only [List.getElem?_toArray, List.getElem?_cons_succ, List.getElem?_cons_zero, Option.some.injEq] at hoi
      subst hoi
      refine Reg.ob_plain rfl ?_
      have e1 : a.eval (.tmp 1) = .bool o := old 1 (by kernel_rfl)
      refine Reg.wp_val (W' := W) (v := _) (by simp only [execOp, e1, Reg.eval_const]; rfl) ⟨_, rfl, Bel.refl W, rfl⟩
    | 2, hoi =>
      simp only [List.getElem?_toArray, List.getElem?_cons_succ, List.getElem?_cons_zero, Option.some.injEq] at hoi
      subst hoi
      refine Reg.ob_plain rfl ?_
      have e25 : a.eval (.tmp 25) = .agg #[.int .i64 kd, .slice u1 u2 u3, .slice u4 u5 u6] := need 0 _ 25 rfl rfl (by kernel_rfl)
      have e26 : a.eval (.tmp 26) = .bool o := need 1 _ 26 rfl rfl (by kernel_rfl)
      refine Reg.wp_call (f := 35) (args := #[.agg #[.int .i64 kd, .slice u1 u2 u3, .slice u4 u5 u6], .bool o]) (by simp only [execOp, e25, e26, Reg.eval_const, resolve, invoke, List.map_toArray, List.map_cons, List.map_nil]; go_simp) ?_
      refine (HEN.out W hW).mono ?_
      rintro e W' ⟨v, rfl, hr, hb⟩; exact ⟨v, rfl, v, rfl, hb.out, hr.out.lower hW.size⟩
    | 3, hoi =>
      simp only [List.getElem?_toArray, List.getElem?_cons_succ, List.getElem?_cons_zero, Option.some.injEq] at hoi
      subst hoi
      refine Reg.ob_plain rfl ?_
      have r27 := need 2 _ 27 rfl rfl (by kernel_rfl)
      simp only at r27
      obtain ⟨x27, e27⟩ : ∃ x, a.eval (.tmp 27) = x := ⟨_, rfl⟩
      rw [← Reg.eval_tmp, e27] at r27
      have hs9 := r27.str
      refine Reg.wp_val (W' := W) (v := .string (strOfNums X)) (by simp only [execOp, e27, Reg.eval_const, resolve, invoke, builtin, List.map_toArray, List.map_cons, List.map_nil, Option.map_some, Option.map_none]; (first | rfl | go_simp | (go_simp; rfl))) ⟨_, rfl, Bel.refl W, rfl⟩
    | 4, hoi =>
      simp only [List.getElem?_toArray, List.getElem?_cons_succ, List.getElem?_cons_zero, Option.some.injEq] at hoi
      subst hoi
      refine Reg.ob_plain rfl ?_
      have e5 : a.eval (.tmp 5) = .slice A6 X.length c6 := old 5 (by kernel_rfl)
      refine Reg.wp_val (W' := W) (v := _) (by simp only [execOp, e5, Reg.eval_const]; rfl) ⟨_, rfl, Bel.refl W, rfl⟩
    | 5, hoi =>
      simp only [List.getElem?_toArray, List.getElem?_cons_succ, List.getElem?_cons_zero, Option.some.injEq] at hoi
      subst hoi
      refine Reg.ob_plain rfl ?_
      have e29 : a.eval (.tmp 29) = .slice A6 X.length c6 := need 4 _ 29 rfl rfl (by kernel_rfl)
      have hs9 := (HCX.out.below hW).str (c := c6)
      refine Reg.wp_val (W' := W) (v := .string (strOfNums X)) (by simp only [execOp, e29, Reg.eval_const, resolve, invoke, builtin, List.map_toArray, List.map_cons, List.map_nil, Option.map_some, Option.map_none]; (first | rfl | go_simp | (go_simp; rfl))) ⟨_, rfl, Bel.refl W, rfl⟩
    | 6, hoi =>
      simp only [List.getElem?_toArray, List.getElem?_cons_succ, List.getElem?_cons_zero, Option.some.injEq] at hoi
      subst hoi
      refine Reg.ob_plain rfl ?_
      have e28 : a.eval (.tmp 28) = .string (strOfNums X) := need 3 _ 28 rfl rfl (by kernel_rfl)
      have e30 : a.eval (.tmp 30) = .string (strOfNums X) := need 5 _ 30 rfl rfl (by kernel_rfl)
      have hbb := beq_self_eq_true ((strOfNums X).toList)
      refine Reg.wp_val (W' := W) (v := .bool true) (by simp only [execOp, e28, e30, Reg.eval_const, resolve, invoke, builtin, List.map_toArray, List.map_cons, List.map_nil, Option.map_some, Option.map_none]; (first | rfl | go_simp | (go_simp; rfl))) ⟨_, rfl, Bel.refl W, rfl⟩
    | 7, hoi =>
      simp only [List.getElem?_toArray, List.getElem?_cons_succ, List.getElem?_cons_zero, Option.some.injEq] at hoi
      subst hoi
      refine Reg.ob_plain rfl ?_
      have e31 : a.eval (.tmp 31) = .bool true := need 6 _ 31 rfl rfl (by kernel_rfl)
      refine Reg.wp_val (W' := W) (v := _) (by simp only [execOp, e31, Reg.eval_const]; rfl) ⟨_, rfl, Bel.refl W, rfl⟩
    | 8, hoi =>
      simp only [List.getElem?_toArray, List.getElem?_cons_succ, List.getElem?_cons_zero, Option.some.injEq] at hoi
      subst hoi
      have eg : a.eval (.tmp 32) = .bool true := need 7 _ 32 rfl rfl (by kernel_rfl)
      refine Reg.ob_yes rfl rfl rfl eg ?_
      have e2 : a.eval (.tmp 2) = .pointer (some ⟨gs, 0, none⟩) := old 2 (by kernel_rfl)
      obtain ⟨c0, c1, c2⟩ := Blk.cells3 (Blk.bel HS6.out hW)
      refine Reg.wp_val (W' := W) (v := .agg #[.int .i64 kd, .slice u1 u2 u3, .slice u4 u5 u6]) (by simp only [execOp, e2, Reg.eval_const, resolve, invoke, builtin, List.map_toArray, List.map_cons, List.map_nil, Option.map_some, Option.map_none]; (first | rfl | go_simp | (go_simp; rfl))) ⟨_, rfl, Bel.refl W, rfl⟩
    | 9, hoi =>
      simp only [List.getElem?_toArray, List.getElem?_cons_succ, List.getElem?_cons_zero, Option.some.injEq] at hoi
      subst hoi
      have eg : a.eval (.tmp 32) = .bool true := need 7 _ 32 rfl rfl (by kernel_rfl)
      refine Reg.ob_yes rfl rfl rfl eg ?_
      have e33 : a.eval (.tmp 33) = .agg #[.int .i64 kd, .slice u1 u2 u3, .slice u4 u5 u6] := need 8 _ 33 rfl rfl (by kernel_rfl)
      refine Reg.wp_call (f := 36) (args := #[.agg #[.int .i64 kd, .slice u1 u2 u3, .slice u4 u5 u6]]) (by simp only [execOp, e33, Reg.eval_const, resolve, invoke, List.map_toArray, List.map_cons, List.map_nil]; go_simp) ?_
      refine (HSI.out W hW).mono ?_
      rintro e W' ⟨rfl, hb⟩; exact ⟨_, rfl, _, rfl, hb, rfl⟩
    | 10, hoi =>
      simp only [List.getElem?_toArray, List.getElem?_cons_succ, List.getElem?_cons_zero, Option.some.injEq] at hoi
      subst hoi
      have eg : a.eval (.tmp 32) = .bool true := need 7 _ 32 rfl rfl (by kernel_rfl)
      refine Reg.ob_yes rfl rfl rfl eg ?_
      have e5 : a.eval (.tmp 5) = .slice A6 X.length c6 := old 5 (by kernel_rfl)
      refine Reg.wp_val (W' := W) (v := _) (by simp only [execOp, e5, Reg.eval_const]; rfl) ⟨_, rfl, Bel.refl W, rfl⟩
    | 11, hoi =>
      simp only [List.getElem?_toArray, List.getElem?_cons_succ, List.getElem?_cons_zero, Option.some.injEq] at hoi
      subst hoi
      have eg : a.eval (.tmp 32) = .bool true := need 7 _ 32 rfl rfl (by kernel_rfl)
      refine Reg.ob_yes rfl rfl rfl eg ?_
      have e35 : a.eval (.tmp 35) = .slice A6 X.length c6 := need 10 _ 35 rfl rfl (by kernel_rfl)
      refine Reg.wp_val (W' := W) (v := .int .i64 ↑X.length) (by simp only [execOp, e35, Reg.eval_const, resolve, invoke, builtin, List.map_toArray, List.map_cons, List.map_nil, Option.map_some, Option.map_none]; (first | rfl | go_simp | (go_simp; rfl))) ⟨_, rfl, Bel.refl W, rfl⟩
    | 12, hoi =>
      simp only [List.getElem?_toArray, List.getElem?_cons_succ, List.getElem?_cons_zero, Option.some.injEq] at hoi
      subst hoi
      have eg : a.eval (.tmp 32) = .bool true := need 7 _ 32 rfl rfl (by kernel_rfl)
      refine Reg.ob_yes rfl rfl rfl eg ?_
      have e34 : a.eval (.tmp 34) = .int .i64 ↑X.length := need 9 _ 34 rfl rfl (by kernel_rfl)
      have e36 : a.eval (.tmp 36) = .int .i64 ↑X.length := need 11 _ 36 rfl rfl (by kernel_rfl)
      have hbb := beq_self_eq_true (X.length : Int)
      refine Reg.wp_val (W' := W) (v := .bool true) (by simp only [execOp, e34, e36, Reg.eval_const, resolve, invoke, builtin, List.map_toArray, List.map_cons, List.map_nil, Option.map_some, Option.map_none]; (first | rfl | go_simp | (go_simp; rfl))) ⟨_, rfl, Bel.refl W, rfl⟩
    | 13, hoi =>
      simp only [List.getElem?_toArray, List.getElem?_cons_succ, List.getElem?_cons_zero, Option.some.injEq] at hoi
      subst hoi
      refine Reg.ob_plain rfl ?_
      have e32 : a.eval (.tmp 32) = .bool true := need 7 _ 32 rfl rfl (by kernel_rfl)
      have e37 : a.eval (.tmp 37) = .bool true := need 12 _ 37 rfl rfl (by kernel_rfl)
      refine Reg.wp_val (W' := W) (v := .bool true) (by simp only [execOp, e32, e37, Reg.eval_const, resolve, invoke, builtin, List.map_toArray, List.map_cons, List.map_nil, Option.map_some, Option.map_none]; (first | rfl | go_simp | (go_simp; rfl))) ⟨_, rfl, Bel.refl W, rfl⟩
    | 14, hoi =>
      simp only [List.getElem?_toArray, List.getElem?_cons_succ, List.getElem?_cons_zero, Option.some.injEq] at hoi
      subst hoi
      refine Reg.ob_plain rfl ?_
      have e38 : a.eval (.tmp 38) = .bool true := need 13 _ 38 rfl rfl (by kernel_rfl)
      refine Reg.wp_val (W' := W) (v := _) (by simp only [execOp, e38, Reg.eval_const]; rfl) ⟨_, rfl, Bel.refl W, rfl⟩
    | 15, hoi =>
      simp only [List.getElem?_toArray, List.getElem?_cons_succ, List.getElem?_cons_zero, Option.some.injEq] at hoi
      subst hoi
      have eg : a.eval (.tmp 39) = .bool true := need 14 _ 39 rfl rfl (by kernel_rfl)
      refine Reg.ob_yes rfl rfl rfl eg ?_
      refine Reg.wp_call (f := 37) (args := #[]) (by simp only [execOp, Reg.eval_const, resolve, invoke, List.map_toArray, List.map_cons, List.map_nil]; go_simp) ?_
      refine (HLV.out W hW).mono ?_
      rintro e W' ⟨rfl, hb⟩; exact ⟨_, rfl, _, rfl, hb, rfl⟩
    | 16, hoi =>
      simp only [List.getElem?_toArray, List.getElem?_cons_succ, List.getElem?_cons_zero, Option.some.injEq] at hoi
      subst hoi
      refine Reg.ob_plain rfl ?_
      have e39 : a.eval (.tmp 39) = .bool true := need 14 _ 39 rfl rfl (by kernel_rfl)
      have e40 : a.eval (.tmp 40) = .bool true := need 15 _ 40 rfl rfl (by kernel_rfl)
      refine Reg.wp_val (W' := W) (v := .bool true) (by simp only [execOp, e39, e40, Reg.eval_const, resolve, invoke, builtin, List.map_toArray, List.map_cons, List.map_nil, Option.map_some, Option.map_none]; (first | rfl | go_simp | (go_simp; rfl))) ⟨_, rfl, Bel.refl W, rfl⟩
    | 17, hoi =>
      simp only [List.getElem?_toArray, List.getElem?_cons_succ, List.getElem?_cons_zero, Option.some.injEq] at hoi
      subst hoi
      refine Reg.ob_plain rfl ?_
      have e41 : a.eval (.tmp 41) = .bool true := need 16 _ 41 rfl rfl (by kernel_rfl)
      refine Reg.wp_val (W' := W) (v := _) (by simp only [execOp, e41, Reg.eval_const]; rfl) ⟨_, rfl, Bel.refl W, rfl⟩
    | n + 18, hoi => simp at hoi
  · intro a w9 hW hsize hdef got same did
    have ha := Reg.act_of [25, 26, 27, 28, 29, 30, 31, 32, 33, 34, 35, 36, 37, 38, 39, 40, 41, 4] hsize hdef same (by kernel_rfl)
    simp only [List.foldl_cons, List.foldl_nil] at ha
    generalize a.tmps.getD 25 undef = y25 at ha
    generalize a.tmps.getD 26 undef = y26 at ha
    generalize a.tmps.getD 27 undef = y27 at ha
    generalize a.tmps.getD 28 undef = y28 at ha
    generalize a.tmps.getD 29 undef = y29 at ha
    generalize a.tmps.getD 30 undef = y30 at ha
    generalize a.tmps.getD 31 undef = y31 at ha
    generalize a.tmps.getD 32 undef = y32 at ha
    generalize a.tmps.getD 33 undef = y33 at ha
    generalize a.tmps.getD 34 undef = y34 at ha
    generalize a.tmps.getD 35 undef = y35 at ha
    generalize a.tmps.getD 36 undef = y36 at ha
    generalize a.tmps.getD 37 undef = y37 at ha
    generalize a.tmps.getD 38 undef = y38 at ha
    generalize a.tmps.getD 39 undef = y39 at ha
    generalize a.tmps.getD 40 undef = y40 at ha
    generalize a.tmps.getD 41 undef = y41 at ha
    have k4 := got 17 _ 4 rfl rfl
    simp only at k4
    rw [k4] at ha
    clear k4
    clear got same hsize hdef did
    subst ha
    simp only [List.setIfInBounds_toArray, List.set_cons_zero, List.set_cons_succ]
    go_wp2
    go_ret
    exact ⟨by first | rfl | simp, bthen HB.out (bthen HB3.out hW)⟩
theorem WkbEncodes_calls {w : World} (cs : Array Value) (s : Sh) (hK : KSh.K w s cs.toList) (hq : shOk s) (o : Bool) (hw2 : 2 ≤ w.heap.size) (hF : FormsAt w) (hN : NowAt w) :
    Calls Tryd.prog 7 #[.agg cs, .bool o] w fun e w' => e = .returned (.bool true) ∧ Below w.heap.size w w' := by
  obtain ⟨d, c, hc, hs⟩ := hK
  obtain ⟨l⟩ := cs
  simp at hc
  subst hc
  exact encodes_calls d s c o w hw2 hs hF hN

end Go.Proofs.YtfknhpgelleenaaDoor.K
