/- ShapeWraps answers true. -/
import Derived.Test.YtfknhpgelleenaaDoorKB
import Derived.Handy
import Derived.Test.YtfknhpgelleenaaDoorWLive13
import Derived.Test.YtfknhpgelleenaaDoorWLight
namespace Go.Proofs.YtfknhpgelleenaaDoor.K
open Go Go.RowKit Go.Proofs.YtfknhpgelleenaaDoorW.PrintWords Go.Proofs.YtfknhpgelleenaaDoorW.PrintLast Go.Proofs.YtfknhpgelleenaaDoorW.PrintMore
set_option linter.unusedVariables false
set_option linter.unusedSimpArgs false
open Go.Shelf
open Go.Proofs.YtfknhpgelleenaaDoor.MShape (Sh wrap light)
theorem wrap1 {q : Int} (h : 0 ≤ q ∧ q ≤ 1000) : IntKind.i64.wrap (q + 1) = q + 1 := by
  first
  | (simp [IntKind.wrap, IntKind.bits, IntKind.signed]; omega)
  | (unfold IntKind.wrap; simp; omega)
  | (simp [IntKind.wrap]; omega)
  | omega
theorem qb {s : MShape.Sh} {P Q E : Int} (hli : MShape.light s = true) (hcn : MShape.count s = ⟨P, Q, E⟩) : (0 ≤ Q ∧ Q ≤ 1000) ∧ (0 ≤ E ∧ E ≤ 1000) := by
  obtain ⟨_, h2, h3, h4⟩ := MShape.light_is hli
  have h5 := MShape.nodes_pos s
  have h6 := MShape.dep_le s 1
  rw [hcn] at h4
  simp only [MShape.Cn.mk.injEq] at h4
  omega
theorem wrapB {W : World} {B D g : Nat} {s : Sh} {kd : Int} {u1 u4 : Option Addr} {u2 u3 u5 u6 : Nat} (hB : B ≤ W.heap.size) (hs : ShB B W D (.int .i64 kd, .slice u1 u2 u3, .slice u4 u5 u6) s) (hg : Blk W g #[.int .i64 kd, .slice u1 u2 u3, .slice u4 u5 u6] 25) :
    ShB W.heap.size W (D + 1) (.int .i64 7, .slice none 0 0, .slice (some ⟨g, 0, none⟩) 1 1) (wrap s) :=
  ⟨rfl, ⟨none, 0, rfl, by simp, by simp, fun i hi => absurd hi (Nat.not_lt_zero _)⟩, [(.int .i64 kd, .slice u1 u2 u3, .slice u4 u5 u6)], rfl,
    ⟨some ⟨g, 0, none⟩, 1, rfl, by simp, by simp, fun i hi => ⟨g, 0, rfl, Blk.lt hg, match i, hi with
      | 0, _ => ⟨Blk.cell hg 0 rfl, Blk.cell hg 1 rfl, Blk.cell hg 2 rfl⟩⟩⟩,
    fun i x p hx hp => match i, hx, hp with
      | 0, hx, hp => by
        cases hx
        cases hp
        exact hs.mono hB⟩
set_option maxHeartbeats 2000000 in
set_option maxRecDepth 100000 in
theorem wraps_calls (D : Nat) (s : Sh) (c : Value × Value × Value) (w : World) (hw1 : 1 ≤ w.heap.size) (hs : ShB w.heap.size w D c s) (hF : FormsAt w) : Calls Tryd.prog 3 #[.agg #[c.1, c.2.1, c.2.2]] w fun e w' => e = .returned (.bool true) ∧ Bel w w' := by
  have HS := Lib.hid hs
  have HL := Lib.hid (fun w1 h => rLight_calls D s c w1 w.heap.size h)
  obtain ⟨kd, u1, u2, u3, u4, u5, u6, rfl⟩ := hs.forms
  dsimp only
  have HF := Lib.hid hF
  clear hs hF
  go_enter Tryd.func3, Tryd.ntmps3
  go_upto_region 1 with (fail)
  have S := Blk.new w #[.int .i64 kd, .slice u1 u2 u3, .slice u4 u5 u6] 25
  have HB := Lib.hid ((Below.refl w.heap.size w).alloc (Nat.le_refl _) (.cells #[.int .i64 kd, .slice u1 u2 u3, .slice u4 u5 u6] 25))
  obtain ⟨w1, hW⟩ : ∃ W, w.alloc (.cells #[.int .i64 kd, .slice u1 u2 u3, .slice u4 u5 u6] 25) = W := ⟨_, rfl⟩
  rw [hW] at S HB ⊢
  clear hW
  obtain ⟨s0, s1, s2⟩ := Blk.cells3 S
  have HC := Lib.hid (HL.out w1 HB.out.size (HS.out.keep (KeepB.bel HB.out)))
  go_wp2_with fail
  refine HC.out.mono ?_
  rintro e w2 ⟨rfl, hb2⟩
  have HB2 := Lib.hid (bthen HB.out hb2)
  have S2 := Blk.bel S hb2
  clear HC HL hb2 s0 s1 s2 S HB
  obtain ⟨s0, s1, s2⟩ := Blk.cells3 S2
  cases hli : light s
  · have HLV := Lib.hid (lives13 w2 (by have := HB2.out.size; omega) (HF.out.bel HB2.out))
    go_wp2_with (go_at_call 16; refine (HLV.out).mono ?_; rintro e w' ⟨rfl, hb⟩)
    go_ret
    exact ⟨by rfl, bthen HB2.out hb⟩
  go_upto_region 4 with (fail)
  have S4 := (S2.alloc (.cells #[.int .i64 kd, .slice u1 u2 u3, .slice u4 u5 u6] 25)).alloc (.cells #[.int .i64 7, .slice none 0 0, .slice (some ⟨w2.heap.size, 0, none⟩) 1 1] 25)
  have G4 := (Blk.new w2 #[.int .i64 kd, .slice u1 u2 u3, .slice u4 u5 u6] 25).alloc (.cells #[.int .i64 7, .slice none 0 0, .slice (some ⟨w2.heap.size, 0, none⟩) 1 1] 25)
  have W4 := Blk.new_at (W := w2.alloc (.cells #[.int .i64 kd, .slice u1 u2 u3, .slice u4 u5 u6] 25)) (g := w2.heap.size + 1) (by simp) #[.int .i64 7, .slice none 0 0, .slice (some ⟨w2.heap.size, 0, none⟩) 1 1] 25
  have HB4 := Lib.hid ((HB2.out.alloc HB2.out.size (.cells #[.int .i64 kd, .slice u1 u2 u3, .slice u4 u5 u6] 25)).alloc (by have := HB2.out.size; simp; omega) (.cells #[.int .i64 7, .slice none 0 0, .slice (some ⟨w2.heap.size, 0, none⟩) 1 1] 25))
  obtain ⟨w4, hW⟩ : ∃ W, (w2.alloc (.cells #[.int .i64 kd, .slice u1 u2 u3, .slice u4 u5 u6] 25)).alloc (.cells #[.int .i64 7, .slice none 0 0, .slice (some ⟨w2.heap.size, 0, none⟩) 1 1] 25) = W := ⟨_, rfl⟩
  rw [hW] at S4 G4 W4 HB4 ⊢
  clear hW
  obtain ⟨gs, hgs⟩ : ∃ g, w2.heap.size = g := ⟨_, rfl⟩
  rw [hgs] at G4 W4 ⊢
  obtain ⟨gw, hgw⟩ : ∃ g, gs + 1 = g := ⟨_, rfl⟩
  rw [hgw] at W4 ⊢
  clear hgs hgw s0 s1 s2 S2
  have HS1 : Hid (∀ w', Bel w4 w' → w.heap.size ≤ w'.heap.size ∧ ShB w.heap.size w' D (.int .i64 kd, .slice u1 u2 u3, .slice u4 u5 u6) s) := Lib.hid (fun w' h => ⟨Nat.le_trans HB4.out.size h.size, (HS.out.keep (KeepB.bel HB4.out)).keep (show KeepB w.heap.size w4 w' from fun j hj cs t r hc => KeepB.bel h j (Nat.lt_of_lt_of_le hj HB4.out.size) cs t r hc)⟩)
  have hSW : ShB w4.heap.size w4 (D + 1) (.int .i64 7, .slice none 0 0, .slice (some ⟨gs, 0, none⟩) 1 1) (wrap s) := wrapB HB4.out.size (HS1.out w4 (Bel.refl w4)).2 G4
  have HS2 : Hid (∀ w', Bel w4 w' → w4.heap.size ≤ w'.heap.size ∧ ShB w4.heap.size w' (D + 1) (.int .i64 7, .slice none 0 0, .slice (some ⟨gs, 0, none⟩) 1 1) (wrap s)) := Lib.hid (fun w' h => ⟨h.size, hSW.keep (KeepB.bel h)⟩)
  obtain ⟨⟨P, Q, E⟩, hcn⟩ : ∃ x, MShape.count s = x := ⟨_, rfl⟩
  have hcw := MShape.wrap_count hli
  rw [hcn] at hcw
  dsimp only at hcw
  have HCN := Lib.hid hcn
  have HCW := Lib.hid hcw
  have HP1 : Hid (∀ w', Bel w4 w' → Calls Tryd.prog 17 #[.agg #[.int .i64 kd, .slice u1 u2 u3, .slice u4 u5 u6]] w' fun e w'' => e = .returned (.int .i64 P) ∧ Bel w' w'') := Lib.hid (fun w' h => by have h9 := pPoints_calls D s (.int .i64 kd, .slice u1 u2 u3, .slice u4 u5 u6) w' w.heap.size (HS1.out w' h).1 (HS1.out w' h).2 _ (by rw [HCN.out]); exact h9)
  have HP2 : Hid (∀ w', Bel w4 w' → Calls Tryd.prog 17 #[.agg #[.int .i64 7, .slice none 0 0, .slice (some ⟨gs, 0, none⟩) 1 1]] w' fun e w'' => e = .returned (.int .i64 (P)) ∧ Bel w' w'') := Lib.hid (fun w' h => by have h9 := pPoints_calls (D + 1) (wrap s) (.int .i64 7, .slice none 0 0, .slice (some ⟨gs, 0, none⟩) 1 1) w' w4.heap.size (HS2.out w' h).1 (HS2.out w' h).2 _ (by rw [HCW.out]); exact h9)
  have HQ1 : Hid (∀ w', Bel w4 w' → Calls Tryd.prog 19 #[.agg #[.int .i64 kd, .slice u1 u2 u3, .slice u4 u5 u6]] w' fun e w'' => e = .returned (.int .i64 Q) ∧ Bel w' w'') := Lib.hid (fun w' h => by have h9 := pParts_calls D s (.int .i64 kd, .slice u1 u2 u3, .slice u4 u5 u6) w' w.heap.size (HS1.out w' h).1 (HS1.out w' h).2 _ (by rw [HCN.out]); exact h9)
  have HQ2 : Hid (∀ w', Bel w4 w' → Calls Tryd.prog 19 #[.agg #[.int .i64 7, .slice none 0 0, .slice (some ⟨gs, 0, none⟩) 1 1]] w' fun e w'' => e = .returned (.int .i64 (Q + 1)) ∧ Bel w' w'') := Lib.hid (fun w' h => by have h9 := pParts_calls (D + 1) (wrap s) (.int .i64 7, .slice none 0 0, .slice (some ⟨gs, 0, none⟩) 1 1) w' w4.heap.size (HS2.out w' h).1 (HS2.out w' h).2 _ (by rw [HCW.out]); exact h9)
  have HE1 : Hid (∀ w', Bel w4 w' → Calls Tryd.prog 18 #[.agg #[.int .i64 kd, .slice u1 u2 u3, .slice u4 u5 u6]] w' fun e w'' => e = .returned (.int .i64 E) ∧ Bel w' w'') := Lib.hid (fun w' h => by have h9 := pDepth_calls D s (.int .i64 kd, .slice u1 u2 u3, .slice u4 u5 u6) w' w.heap.size (HS1.out w' h).1 (HS1.out w' h).2 _ (by rw [HCN.out]); exact h9)
  have HE2 : Hid (∀ w', Bel w4 w' → Calls Tryd.prog 18 #[.agg #[.int .i64 7, .slice none 0 0, .slice (some ⟨gs, 0, none⟩) 1 1]] w' fun e w'' => e = .returned (.int .i64 (E + 1)) ∧ Bel w' w'') := Lib.hid (fun w' h => by have h9 := pDepth_calls (D + 1) (wrap s) (.int .i64 7, .slice none 0 0, .slice (some ⟨gs, 0, none⟩) 1 1) w' w4.heap.size (HS2.out w' h).1 (HS2.out w' h).2 _ (by rw [HCW.out]); exact h9)
  have HM1 : Hid (∀ w', Bel w4 w' → Calls Tryd.prog 20 #[.agg #[.int .i64 kd, .slice u1 u2 u3, .slice u4 u5 u6]] w' fun e w'' => e = .returned (.bool (P == 0)) ∧ Bel w' w'') := Lib.hid (fun w' h => by have h9 := empty_calls D s (.int .i64 kd, .slice u1 u2 u3, .slice u4 u5 u6) w' w.heap.size (HS1.out w' h).1 (HS1.out w' h).2 _ (by rw [HCN.out]); exact h9)
  have HM2 : Hid (∀ w', Bel w4 w' → Calls Tryd.prog 20 #[.agg #[.int .i64 7, .slice none 0 0, .slice (some ⟨gs, 0, none⟩) 1 1]] w' fun e w'' => e = .returned (.bool (P == 0)) ∧ Bel w' w'') := Lib.hid (fun w' h => by have h9 := empty_calls (D + 1) (wrap s) (.int .i64 7, .slice none 0 0, .slice (some ⟨gs, 0, none⟩) 1 1) w' w4.heap.size (HS2.out w' h).1 (HS2.out w' h).2 _ (by rw [HCW.out]); exact h9)
  have HWQ : Hid (IntKind.i64.wrap (Q + 1) = Q + 1) := Lib.hid (wrap1 (qb hli hcn).1)
  have HWE : Hid (IntKind.i64.wrap (E + 1) = E + 1) := Lib.hid (wrap1 (qb hli hcn).2)
  have HLI := Lib.hid hli
  clear hcw hSW hli
  obtain ⟨ks, hks⟩ : ∃ k, MShape.check s = k := ⟨_, rfl⟩
  obtain ⟨kw, hkw⟩ : ∃ k, MShape.check (wrap s) = k := ⟨_, rfl⟩
  have HKS := Lib.hid hks
  have HKW := Lib.hid hkw
  clear hks hkw hcn
  have HCK1 : Hid (∀ w', Bel w4 w' → Calls Tryd.prog 21 #[.agg #[.int .i64 kd, .slice u1 u2 u3, .slice u4 u5 u6]] w' fun e w'' => e = .returned (.int .i64 ks) ∧ Bel w' w'') := Lib.hid (fun w' h => by have h9 := check_calls D s (.int .i64 kd, .slice u1 u2 u3, .slice u4 u5 u6) w' w.heap.size (HS1.out w' h).1 (by have := HB4.out.size; have := h.size; omega) (HS1.out w' h).2 (HF.out.bel (bthen HB4.out h)); rw [HKS.out] at h9; exact h9)
  have HCK2 : Hid (∀ w', Bel w4 w' → Calls Tryd.prog 21 #[.agg #[.int .i64 7, .slice none 0 0, .slice (some ⟨gs, 0, none⟩) 1 1]] w' fun e w'' => e = .returned (.int .i64 kw) ∧ Bel w' w'') := Lib.hid (fun w' h => by have h9 := check_calls (D + 1) (wrap s) (.int .i64 7, .slice none 0 0, .slice (some ⟨gs, 0, none⟩) 1 1) w' w4.heap.size (HS2.out w' h).1 (by have := HB4.out.size; have := h.size; omega) (HS2.out w' h).2 (HF.out.bel (bthen HB4.out h)); rw [HKW.out] at h9; exact h9)
  go_wp2_with fail
  refine Reg.region_mono (P := Tryd.prog) (Ext := Bel) (R := fun i v W => match i with
      | 0 => v = .agg #[.int .i64 7, .slice none 0 0, .slice (some ⟨gs, 0, none⟩) 1 1]
      | 1 => v = .int .i64 P
      | 2 => v = .agg #[.int .i64 kd, .slice u1 u2 u3, .slice u4 u5 u6]
      | 3 => v = .int .i64 P
      | 4 => v = .bool false
      | 5 => v = .bool false
      | 6 => v = .agg #[.int .i64 7, .slice none 0 0, .slice (some ⟨gs, 0, none⟩) 1 1]
      | 7 => v = .int .i64 (E + 1)
      | 8 => v = .agg #[.int .i64 kd, .slice u1 u2 u3, .slice u4 u5 u6]
      | 9 => v = .int .i64 E
      | 10 => v = .int .i64 (E + 1)
      | 11 => v = .bool false
      | 12 => v = .bool false
      | 13 => v = .bool false
      | 14 => v = .agg #[.int .i64 7, .slice none 0 0, .slice (some ⟨gs, 0, none⟩) 1 1]
      | 15 => v = .int .i64 (Q + 1)
      | 16 => v = .agg #[.int .i64 kd, .slice u1 u2 u3, .slice u4 u5 u6]
      | 17 => v = .int .i64 Q
      | 18 => v = .int .i64 (Q + 1)
      | 19 => v = .bool false
      | 20 => v = .bool false
      | 21 => v = .bool false
      | 22 => v = .agg #[.int .i64 7, .slice none 0 0, .slice (some ⟨gs, 0, none⟩) 1 1]
      | 23 => v = .bool (P == 0)
      | 24 => v = .agg #[.int .i64 kd, .slice u1 u2 u3, .slice u4 u5 u6]
      | 25 => v = .bool (P == 0)
      | 26 => v = .bool false
      | 27 => v = .bool false
      | _ => True) (fun W => Below w4.heap.size w4 W) rfl (by kernel_rfl) (by kernel_rfl) (Bel.drew w4) (fun W W' h h' => bthen h h') Bel.refl (by intro j v W W' hx h; split at h <;> exact h) ?_ ?_
  · intro i oi hoi a W hW need old
    match i, hoi with
    | 0, hoi =>
      simp only [List.getElem?_toArray, List.getElem?_cons_succ, List.getElem?_cons_zero, Option.some.injEq] at hoi
      subst hoi
      refine Reg.ob_plain rfl ?_
      have e3 : a.eval (.tmp 3) = .pointer (some ⟨gw, 0, none⟩) := old 3 (by kernel_rfl)
      obtain ⟨c0, c1, c2⟩ := Blk.cells3 (Blk.bel W4 hW)
      refine Reg.wp_val (W' := W) (v := .agg #[.int .i64 7, .slice none 0 0, .slice (some ⟨gs, 0, none⟩) 1 1]) (by simp only [execOp, e3, Reg.eval_const, resolve, invoke, builtin, List.map_toArray, List.map_cons, List.map_nil, Option.map_some, Option.map_none]; (first | rfl | go_simp | (go_simp; rfl))) ⟨_, rfl, Bel.refl W, rfl⟩
    | 1, hoi =>
      simp only [List.getElem?_toArray, List.getElem?_cons_succ, List.getElem?_cons_zero, Option.some.injEq] at hoi
      subst hoi
      refine Reg.ob_plain rfl ?_
      have e13 : a.eval (.tmp 13) = .agg #[.int .i64 7, .slice none 0 0, .slice (some ⟨gs, 0, none⟩) 1 1] := need 0 _ 13 rfl rfl (by kernel_rfl)
      refine Reg.wp_call (f := 17) (args := #[.agg #[.int .i64 7, .slice none 0 0, .slice (some ⟨gs, 0, none⟩) 1 1]]) (by simp only [execOp, e13, Reg.eval_const, resolve, invoke, List.map_toArray, List.map_cons, List.map_nil]; go_simp) ?_
      refine (HP2.out _ hW).mono ?_
      rintro e W' ⟨rfl, hb⟩; exact ⟨_, rfl, _, rfl, hb, rfl⟩
    | 2, hoi =>
      simp only [List.getElem?_toArray, List.getElem?_cons_succ, List.getElem?_cons_zero, Option.some.injEq] at hoi
      subst hoi
      refine Reg.ob_plain rfl ?_
      have e1 : a.eval (.tmp 1) = .pointer (some ⟨w.heap.size, 0, none⟩) := old 1 (by kernel_rfl)
      obtain ⟨c0, c1, c2⟩ := Blk.cells3 (Blk.bel S4 hW)
      refine Reg.wp_val (W' := W) (v := .agg #[.int .i64 kd, .slice u1 u2 u3, .slice u4 u5 u6]) (by simp only [execOp, e1, Reg.eval_const, resolve, invoke, builtin, List.map_toArray, List.map_cons, List.map_nil, Option.map_some, Option.map_none]; (first | rfl | go_simp | (go_simp; rfl))) ⟨_, rfl, Bel.refl W, rfl⟩
    | 3, hoi =>
      simp only [List.getElem?_toArray, List.getElem?_cons_succ, List.getElem?_cons_zero, Option.some.injEq] at hoi
      subst hoi
      refine Reg.ob_plain rfl ?_
      have e15 : a.eval (.tmp 15) = .agg #[.int .i64 kd, .slice u1 u2 u3, .slice u4 u5 u6] := need 2 _ 15 rfl rfl (by kernel_rfl)
      refine Reg.wp_call (f := 17) (args := #[.agg #[.int .i64 kd, .slice u1 u2 u3, .slice u4 u5 u6]]) (by simp only [execOp, e15, Reg.eval_const, resolve, invoke, List.map_toArray, List.map_cons, List.map_nil]; go_simp) ?_
      refine (HP1.out _ hW).mono ?_
      rintro e W' ⟨rfl, hb⟩; exact ⟨_, rfl, _, rfl, hb, rfl⟩
    | 4, hoi =>
      simp only [List.getElem?_toArray, List.getElem?_cons_succ, List.getElem?_cons_zero, Option.some.injEq] at hoi
      subst hoi
      refine Reg.ob_plain rfl ?_
      have e14 : a.eval (.tmp 14) = .int .i64 P := need 1 _ 14 rfl rfl (by kernel_rfl)
      have e16 : a.eval (.tmp 16) = .int .i64 P := need 3 _ 16 rfl rfl (by kernel_rfl)
      have n1 := bne_self_eq_false P
      refine Reg.wp_val (W' := W) (v := .bool false) (by simp only [execOp, e14, e16, Reg.eval_const, resolve, invoke, builtin, List.map_toArray, List.map_cons, List.map_nil, Option.map_some, Option.map_none]; (first | rfl | go_simp | (go_simp; rfl))) ⟨_, rfl, Bel.refl W, rfl⟩
    | 5, hoi =>
      simp only [List.getElem?_toArray, List.getElem?_cons_succ, List.getElem?_cons_zero, Option.some.injEq] at hoi
      subst hoi
      refine Reg.ob_plain rfl ?_
      have e17 : a.eval (.tmp 17) = .bool false := need 4 _ 17 rfl rfl (by kernel_rfl)
      refine Reg.wp_val (W' := W) (v := _) (by simp only [execOp, e17, Reg.eval_const]; rfl) ⟨_, rfl, Bel.refl W, rfl⟩
    | 6, hoi =>
      simp only [List.getElem?_toArray, List.getElem?_cons_succ, List.getElem?_cons_zero, Option.some.injEq] at hoi
      subst hoi
      have eg : a.eval (.tmp 18) = .bool false := need 5 _ 18 rfl rfl (by kernel_rfl)
      refine Reg.ob_yes rfl rfl rfl eg ?_
      have e3 : a.eval (.tmp 3) = .pointer (some ⟨gw, 0, none⟩) := old 3 (by kernel_rfl)
      obtain ⟨c0, c1, c2⟩ := Blk.cells3 (Blk.bel W4 hW)
      refine Reg.wp_val (W' := W) (v := .agg #[.int .i64 7, .slice none 0 0, .slice (some ⟨gs, 0, none⟩) 1 1]) (by simp only [execOp, e3, Reg.eval_const, resolve, invoke, builtin, List.map_toArray, List.map_cons, List.map_nil, Option.map_some, Option.map_none]; (first | rfl | go_simp | (go_simp; rfl))) ⟨_, rfl, Bel.refl W, rfl⟩
    | 7, hoi =>
      simp only [List.getElem?_toArray, List.getElem?_cons_succ, List.getElem?_cons_zero, Option.some.injEq] at hoi
      subst hoi
      have eg : a.eval (.tmp 18) = .bool false := need 5 _ 18 rfl rfl (by kernel_rfl)
      refine Reg.ob_yes rfl rfl rfl eg ?_
      have e19 : a.eval (.tmp 19) = .agg #[.int .i64 7, .slice none 0 0, .slice (some ⟨gs, 0, none⟩) 1 1] := need 6 _ 19 rfl rfl (by kernel_rfl)
      refine Reg.wp_call (f := 18) (args := #[.agg #[.int .i64 7, .slice none 0 0, .slice (some ⟨gs, 0, none⟩) 1 1]]) (by simp only [execOp, e19, Reg.eval_const, resolve, invoke, List.map_toArray, List.map_cons, List.map_nil]; go_simp) ?_
      refine (HE2.out _ hW).mono ?_
      rintro e W' ⟨rfl, hb⟩; exact ⟨_, rfl, _, rfl, hb, rfl⟩
    | 8, hoi =>
      simp only [List.getElem?_toArray, List.getElem?_cons_succ, List.getElem?_cons_zero, Option.some.injEq] at hoi
      subst hoi
      have eg : a.eval (.tmp 18) = .bool false := need 5 _ 18 rfl rfl (by kernel_rfl)
      refine Reg.ob_yes rfl rfl rfl eg ?_
      have e1 : a.eval (.tmp 1) = .pointer (some ⟨w.heap.size, 0, none⟩) := old 1 (by kernel_rfl)
      obtain ⟨c0, c1, c2⟩ := Blk.cells3 (Blk.bel S4 hW)
      refine Reg.wp_val (W' := W) (v := .agg #[.int .i64 kd, .slice u1 u2 u3, .slice u4 u5 u6]) (by simp only [execOp, e1, Reg.eval_const, resolve, invoke, builtin, List.map_toArray, List.map_cons, List.map_nil, Option.map_some, Option.map_none]; (first | rfl | go_simp | (go_simp; rfl))) ⟨_, rfl, Bel.refl W, rfl⟩
    | 9, hoi =>
      simp only [List.getElem?_toArray, List.getElem?_cons_succ, List.getElem?_cons_zero, Option.some.injEq] at hoi
      subst hoi
      have eg : a.eval (.tmp 18) = .bool false := need 5 _ 18 rfl rfl (by kernel_rfl)
      refine Reg.ob_yes rfl rfl rfl eg ?_
      have e21 : a.eval (.tmp 21) = .agg #[.int .i64 kd, .slice u1 u2 u3, .slice u4 u5 u6] := need 8 _ 21 rfl rfl (by kernel_rfl)
      refine Reg.wp_call (f := 18) (args := #[.agg #[.int .i64 kd, .slice u1 u2 u3, .slice u4 u5 u6]]) (by simp only [execOp, e21, Reg.eval_const, resolve, invoke, List.map_toArray, List.map_cons, List.map_nil]; go_simp) ?_
      refine (HE1.out _ hW).mono ?_
      rintro e W' ⟨rfl, hb⟩; exact ⟨_, rfl, _, rfl, hb, rfl⟩
    | 10, hoi =>
      simp only [List.getElem?_toArray, List.getElem?_cons_succ, List.getElem?_cons_zero, Option.some.injEq] at hoi
      subst hoi
      have eg : a.eval (.tmp 18) = .bool false := need 5 _ 18 rfl rfl (by kernel_rfl)
      refine Reg.ob_yes rfl rfl rfl eg ?_
      have e22 : a.eval (.tmp 22) = .int .i64 E := need 9 _ 22 rfl rfl (by kernel_rfl)
      have n1 := HWE.out
      refine Reg.wp_val (W' := W) (v := .int .i64 (E + 1)) (by simp only [execOp, e22, Reg.eval_const, resolve, invoke, builtin, List.map_toArray, List.map_cons, List.map_nil, Option.map_some, Option.map_none]; (first | rfl | go_simp | (go_simp; rfl))) ⟨_, rfl, Bel.refl W, rfl⟩
    | 11, hoi =>
      simp only [List.getElem?_toArray, List.getElem?_cons_succ, List.getElem?_cons_zero, Option.some.injEq] at hoi
      subst hoi
      have eg : a.eval (.tmp 18) = .bool false := need 5 _ 18 rfl rfl (by kernel_rfl)
      refine Reg.ob_yes rfl rfl rfl eg ?_
      have e20 : a.eval (.tmp 20) = .int .i64 (E + 1) := need 7 _ 20 rfl rfl (by kernel_rfl)
      have e23 : a.eval (.tmp 23) = .int .i64 (E + 1) := need 10 _ 23 rfl rfl (by kernel_rfl)
      have n1 := bne_self_eq_false (E + 1)
      refine Reg.wp_val (W' := W) (v := .bool false) (by simp only [execOp, e20, e23, Reg.eval_const, resolve, invoke, builtin, List.map_toArray, List.map_cons, List.map_nil, Option.map_some, Option.map_none]; (first | rfl | go_simp | (go_simp; rfl))) ⟨_, rfl, Bel.refl W, rfl⟩
    | 12, hoi =>
      simp only [List.getElem?_toArray, List.getElem?_cons_succ, List.getElem?_cons_zero, Option.some.injEq] at hoi
      subst hoi
      refine Reg.ob_plain rfl ?_
      have e18 : a.eval (.tmp 18) = .bool false := need 5 _ 18 rfl rfl (by kernel_rfl)
      have e24 : a.eval (.tmp 24) = .bool false := need 11 _ 24 rfl rfl (by kernel_rfl)
      refine Reg.wp_val (W' := W) (v := .bool false) (by simp only [execOp, e18, e24, Reg.eval_const, resolve, invoke, builtin, List.map_toArray, List.map_cons, List.map_nil, Option.map_some, Option.map_none]; (first | rfl | go_simp | (go_simp; rfl))) ⟨_, rfl, Bel.refl W, rfl⟩
    | 13, hoi =>
      simp only [List.getElem?_toArray, List.getElem?_cons_succ, List.getElem?_cons_zero, Option.some.injEq] at hoi
      subst hoi
      refine Reg.ob_plain rfl ?_
      have e25 : a.eval (.tmp 25) = .bool false := need 12 _ 25 rfl rfl (by kernel_rfl)
      refine Reg.wp_val (W' := W) (v := _) (by simp only [execOp, e25, Reg.eval_const]; rfl) ⟨_, rfl, Bel.refl W, rfl⟩
    | 14, hoi =>
      simp only [List.getElem?_toArray, List.getElem?_cons_succ, List.getElem?_cons_zero, Option.some.injEq] at hoi
      subst hoi
      have eg : a.eval (.tmp 26) = .bool false := need 13 _ 26 rfl rfl (by kernel_rfl)
      refine Reg.ob_yes rfl rfl rfl eg ?_
      have e3 : a.eval (.tmp 3) = .pointer (some ⟨gw, 0, none⟩) := old 3 (by kernel_rfl)
      obtain ⟨c0, c1, c2⟩ := Blk.cells3 (Blk.bel W4 hW)
      refine Reg.wp_val (W' := W) (v := .agg #[.int .i64 7, .slice none 0 0, .slice (some ⟨gs, 0, none⟩) 1 1]) (by simp only [execOp, e3, Reg.eval_const, resolve, invoke, builtin, List.map_toArray, List.map_cons, List.map_nil, Option.map_some, Option.map_none]; (first | rfl | go_simp | (go_simp; rfl))) ⟨_, rfl, Bel.refl W, rfl⟩
    | 15, hoi =>
      simp only [List.getElem?_toArray, List.getElem?_cons_succ, List.getElem?_cons_zero, Option.some.injEq] at hoi
      subst hoi
      have eg : a.eval (.tmp 26) = .bool false := need 13 _ 26 rfl rfl (by kernel_rfl)
      refine Reg.ob_yes rfl rfl rfl eg ?_
      have e27 : a.eval (.tmp 27) = .agg #[.int .i64 7, .slice none 0 0, .slice (some ⟨gs, 0, none⟩) 1 1] := need 14 _ 27 rfl rfl (by kernel_rfl)
      refine Reg.wp_call (f := 19) (args := #[.agg #[.int .i64 7, .slice none 0 0, .slice (some ⟨gs, 0, none⟩) 1 1]]) (by simp only [execOp, e27, Reg.eval_const, resolve, invoke, List.map_toArray, List.map_cons, List.map_nil]; go_simp) ?_
      refine (HQ2.out _ hW).mono ?_
      rintro e W' ⟨rfl, hb⟩; exact ⟨_, rfl, _, rfl, hb, rfl⟩
    | 16, hoi =>
      simp only [List.getElem?_toArray, List.getElem?_cons_succ, List.getElem?_cons_zero, Option.some.injEq] at hoi
      subst hoi
      have eg : a.eval (.tmp 26) = .bool false := need 13 _ 26 rfl rfl (by kernel_rfl)
      refine Reg.ob_yes rfl rfl rfl eg ?_
      have e1 : a.eval (.tmp 1) = .pointer (some ⟨w.heap.size, 0, none⟩) := old 1 (by kernel_rfl)
      obtain ⟨c0, c1, c2⟩ := Blk.cells3 (Blk.bel S4 hW)
      refine Reg.wp_val (W' := W) (v := .agg #[.int .i64 kd, .slice u1 u2 u3, .slice u4 u5 u6]) (by simp only [execOp, e1, Reg.eval_const, resolve, invoke, builtin, List.map_toArray, List.map_cons, List.map_nil, Option.map_some, Option.map_none]; (first | rfl | go_simp | (go_simp; rfl))) ⟨_, rfl, Bel.refl W, rfl⟩
    | 17, hoi =>
      simp only [List.getElem?_toArray, List.getElem?_cons_succ, List.getElem?_cons_zero, Option.some.injEq] at hoi
      subst hoi
      have eg : a.eval (.tmp 26) = .bool false := need 13 _ 26 rfl rfl (by kernel_rfl)
      refine Reg.ob_yes rfl rfl rfl eg ?_
      have e29 : a.eval (.tmp 29) = .agg #[.int .i64 kd, .slice u1 u2 u3, .slice u4 u5 u6] := need 16 _ 29 rfl rfl (by kernel_rfl)
      refine Reg.wp_call (f := 19) (args := #[.agg #[.int .i64 kd, .slice u1 u2 u3, .slice u4 u5 u6]]) (by simp only [execOp, e29, Reg.eval_const, resolve, invoke, List.map_toArray, List.map_cons, List.map_nil]; go_simp) ?_
      refine (HQ1.out _ hW).mono ?_
      rintro e W' ⟨rfl, hb⟩; exact ⟨_, rfl, _, rfl, hb, rfl⟩
    | 18, hoi =>
      simp only [List.getElem?_toArray, List.getElem?_cons_succ, List.getElem?_cons_zero, Option.some.injEq] at hoi
      subst hoi
      have eg : a.eval (.tmp 26) = .bool false := need 13 _ 26 rfl rfl (by kernel_rfl)
      refine Reg.ob_yes rfl rfl rfl eg ?_
      have e30 : a.eval (.tmp 30) = .int .i64 Q := need 17 _ 30 rfl rfl (by kernel_rfl)
      have n1 := HWQ.out
      refine Reg.wp_val (W' := W) (v := .int .i64 (Q + 1)) (by simp only [execOp, e30, Reg.eval_const, resolve, invoke, builtin, List.map_toArray, List.map_cons, List.map_nil, Option.map_some, Option.map_none]; (first | rfl | go_simp | (go_simp; rfl))) ⟨_, rfl, Bel.refl W, rfl⟩
    | 19, hoi =>
      simp only [List.getElem?_toArray, List.getElem?_cons_succ, List.getElem?_cons_zero, Option.some.injEq] at hoi
      subst hoi
      have eg : a.eval (.tmp 26) = .bool false := need 13 _ 26 rfl rfl (by kernel_rfl)
      refine Reg.ob_yes rfl rfl rfl eg ?_
      have e28 : a.eval (.tmp 28) = .int .i64 (Q + 1) := need 15 _ 28 rfl rfl (by kernel_rfl)
      have e31 : a.eval (.tmp 31) = .int .i64 (Q + 1) := need 18 _ 31 rfl rfl (by kernel_rfl)
      have n1 := bne_self_eq_false (Q + 1)
      refine Reg.wp_val (W' := W) (v := .bool false) (by simp only [execOp, e28, e31, Reg.eval_const, resolve, invoke, builtin, List.map_toArray, List.map_cons, List.map_nil, Option.map_some, Option.map_none]; (first | rfl | go_simp | (go_simp; rfl))) ⟨_, rfl, Bel.refl W, rfl⟩
    | 20, hoi =>
      simp only [List.getElem?_toArray, List.getElem?_cons_succ, List.getElem?_cons_zero, Option.some.injEq] at hoi
      subst hoi
      refine Reg.ob_plain rfl ?_
      have e26 : a.eval (.tmp 26) = .bool false := need 13 _ 26 rfl rfl (by kernel_rfl)
      have e32 : a.eval (.tmp 32) = .bool false := need 19 _ 32 rfl rfl (by kernel_rfl)
      refine Reg.wp_val (W' := W) (v := .bool false) (by simp only [execOp, e26, e32, Reg.eval_const, resolve, invoke, builtin, List.map_toArray, List.map_cons, List.map_nil, Option.map_some, Option.map_none]; (first | rfl | go_simp | (go_simp; rfl))) ⟨_, rfl, Bel.refl W, rfl⟩
    | 21, hoi =>
      simp only [List.getElem?_toArray, List.getElem?_cons_succ, List.getElem?_cons_zero, Option.some.injEq] at hoi
      subst hoi
      refine Reg.ob_plain rfl ?_
      have e33 : a.eval (.tmp 33) = .bool false := need 20 _ 33 rfl rfl (by kernel_rfl)
      refine Reg.wp_val (W' := W) (v := _) (by simp only [execOp, e33, Reg.eval_const]; rfl) ⟨_, rfl, Bel.refl W, rfl⟩
    | 22, hoi =>
      simp only [List.getElem?_toArray, List.getElem?_cons_succ, List.getElem?_cons_zero, Option.some.injEq] at hoi
      subst hoi
      have eg : a.eval (.tmp 34) = .bool false := need 21 _ 34 rfl rfl (by kernel_rfl)
      refine Reg.ob_yes rfl rfl rfl eg ?_
      have e3 : a.eval (.tmp 3) = .pointer (some ⟨gw, 0, none⟩) := old 3 (by kernel_rfl)
      obtain ⟨c0, c1, c2⟩ := Blk.cells3 (Blk.bel W4 hW)
      refine Reg.wp_val (W' := W) (v := .agg #[.int .i64 7, .slice none 0 0, .slice (some ⟨gs, 0, none⟩) 1 1]) (by simp only [execOp, e3, Reg.eval_const, resolve, invoke, builtin, List.map_toArray, List.map_cons, List.map_nil, Option.map_some, Option.map_none]; (first | rfl | go_simp | (go_simp; rfl))) ⟨_, rfl, Bel.refl W, rfl⟩
    | 23, hoi =>
      simp only [List.getElem?_toArray, List.getElem?_cons_succ, List.getElem?_cons_zero, Option.some.injEq] at hoi
      subst hoi
      have eg : a.eval (.tmp 34) = .bool false := need 21 _ 34 rfl rfl (by kernel_rfl)
      refine Reg.ob_yes rfl rfl rfl eg ?_
      have e35 : a.eval (.tmp 35) = .agg #[.int .i64 7, .slice none 0 0, .slice (some ⟨gs, 0, none⟩) 1 1] := need 22 _ 35 rfl rfl (by kernel_rfl)
      refine Reg.wp_call (f := 20) (args := #[.agg #[.int .i64 7, .slice none 0 0, .slice (some ⟨gs, 0, none⟩) 1 1]]) (by simp only [execOp, e35, Reg.eval_const, resolve, invoke, List.map_toArray, List.map_cons, List.map_nil]; go_simp) ?_
      refine (HM2.out _ hW).mono ?_
      rintro e W' ⟨rfl, hb⟩; exact ⟨_, rfl, _, rfl, hb, rfl⟩
    | 24, hoi =>
      simp only [List.getElem?_toArray, List.getElem?_cons_succ, List.getElem?_cons_zero, Option.some.injEq] at hoi
      subst hoi
      have eg : a.eval (.tmp 34) = .bool false := need 21 _ 34 rfl rfl (by kernel_rfl)
      refine Reg.ob_yes rfl rfl rfl eg ?_
      have e1 : a.eval (.tmp 1) = .pointer (some ⟨w.heap.size, 0, none⟩) := old 1 (by kernel_rfl)
      obtain ⟨c0, c1, c2⟩ := Blk.cells3 (Blk.bel S4 hW)
      refine Reg.wp_val (W' := W) (v := .agg #[.int .i64 kd, .slice u1 u2 u3, .slice u4 u5 u6]) (by simp only [execOp, e1, Reg.eval_const, resolve, invoke, builtin, List.map_toArray, List.map_cons, List.map_nil, Option.map_some, Option.map_none]; (first | rfl | go_simp | (go_simp; rfl))) ⟨_, rfl, Bel.refl W, rfl⟩
    | 25, hoi =>
      simp only [List.getElem?_toArray, List.getElem?_cons_succ, List.getElem?_cons_zero, Option.some.injEq] at hoi
      subst hoi
      have eg : a.eval (.tmp 34) = .bool false := need 21 _ 34 rfl rfl (by kernel_rfl)
      refine Reg.ob_yes rfl rfl rfl eg ?_
      have e37 : a.eval (.tmp 37) = .agg #[.int .i64 kd, .slice u1 u2 u3, .slice u4 u5 u6] := need 24 _ 37 rfl rfl (by kernel_rfl)
      refine Reg.wp_call (f := 20) (args := #[.agg #[.int .i64 kd, .slice u1 u2 u3, .slice u4 u5 u6]]) (by simp only [execOp, e37, Reg.eval_const, resolve, invoke, List.map_toArray, List.map_cons, List.map_nil]; go_simp) ?_
      refine (HM1.out _ hW).mono ?_
      rintro e W' ⟨rfl, hb⟩; exact ⟨_, rfl, _, rfl, hb, rfl⟩
    | 26, hoi =>
      simp only [List.getElem?_toArray, List.getElem?_cons_succ, List.getElem?_cons_zero, Option.some.injEq] at hoi
      subst hoi
      have eg : a.eval (.tmp 34) = .bool false := need 21 _ 34 rfl rfl (by kernel_rfl)
      refine Reg.ob_yes rfl rfl rfl eg ?_
      have e36 : a.eval (.tmp 36) = .bool (P == 0) := need 23 _ 36 rfl rfl (by kernel_rfl)
      have e38 : a.eval (.tmp 38) = .bool (P == 0) := need 25 _ 38 rfl rfl (by kernel_rfl)
      have n1 := bne_self_eq_false (P == 0)
      refine Reg.wp_val (W' := W) (v := .bool false) (by simp only [execOp, e36, e38, Reg.eval_const, resolve, invoke, builtin, List.map_toArray, List.map_cons, List.map_nil, Option.map_some, Option.map_none]; (first | rfl | go_simp | (go_simp; rfl))) ⟨_, rfl, Bel.refl W, rfl⟩
    | 27, hoi =>
      simp only [List.getElem?_toArray, List.getElem?_cons_succ, List.getElem?_cons_zero, Option.some.injEq] at hoi
      subst hoi
      refine Reg.ob_plain rfl ?_
      have e34 : a.eval (.tmp 34) = .bool false := need 21 _ 34 rfl rfl (by kernel_rfl)
      have e39 : a.eval (.tmp 39) = .bool false := need 26 _ 39 rfl rfl (by kernel_rfl)
      refine Reg.wp_val (W' := W) (v := .bool false) (by simp only [execOp, e34, e39, Reg.eval_const, resolve, invoke, builtin, List.map_toArray, List.map_cons, List.map_nil, Option.map_some, Option.map_none]; (first | rfl | go_simp | (go_simp; rfl))) ⟨_, rfl, Bel.refl W, rfl⟩
    | n + 28, hoi => simp at hoi
  · intro a w5 hW hsize hdef got same did
    have ha := Reg.act_of [13, 14, 15, 16, 17, 18, 19, 20, 21, 22, 23, 24, 25, 26, 27, 28, 29, 30, 31, 32, 33, 34, 35, 36, 37, 38, 39, 40] hsize hdef same (by kernel_rfl)
    simp only [List.foldl_cons, List.foldl_nil] at ha
    generalize a.tmps.getD 13 undef = y13 at ha
    generalize a.tmps.getD 14 undef = y14 at ha
    generalize a.tmps.getD 15 undef = y15 at ha
    generalize a.tmps.getD 16 undef = y16 at ha
    generalize a.tmps.getD 17 undef = y17 at ha
    generalize a.tmps.getD 18 undef = y18 at ha
    generalize a.tmps.getD 19 undef = y19 at ha
    generalize a.tmps.getD 20 undef = y20 at ha
    generalize a.tmps.getD 21 undef = y21 at ha
    generalize a.tmps.getD 22 undef = y22 at ha
    generalize a.tmps.getD 23 undef = y23 at ha
    generalize a.tmps.getD 24 undef = y24 at ha
    generalize a.tmps.getD 25 undef = y25 at ha
    generalize a.tmps.getD 26 undef = y26 at ha
    generalize a.tmps.getD 27 undef = y27 at ha
    generalize a.tmps.getD 28 undef = y28 at ha
    generalize a.tmps.getD 29 undef = y29 at ha
    generalize a.tmps.getD 30 undef = y30 at ha
    generalize a.tmps.getD 31 undef = y31 at ha
    generalize a.tmps.getD 32 undef = y32 at ha
    generalize a.tmps.getD 33 undef = y33 at ha
    generalize a.tmps.getD 34 undef = y34 at ha
    generalize a.tmps.getD 35 undef = y35 at ha
    generalize a.tmps.getD 36 undef = y36 at ha
    generalize a.tmps.getD 37 undef = y37 at ha
    generalize a.tmps.getD 38 undef = y38 at ha
    generalize a.tmps.getD 39 undef = y39 at ha
    have k40 := got 27 _ 40 rfl rfl
    simp only at k40
    rw [k40] at ha
    clear k40
    clear got same hsize hdef did
    subst ha
    simp only [List.setIfInBounds_toArray, List.set_cons_zero, List.set_cons_succ]

    have HB5 := Lib.hid hW
    have S5 := Blk.bel S4 hW
    have W5 := Blk.bel W4 hW
    clear hW S4 W4 G4
    go_wp2_with fail
    refine Reg.region_mono (P := Tryd.prog) (Ext := Bel) (R := fun i v W => match i with
        | 0 => v = .agg #[.int .i64 kd, .slice u1 u2 u3, .slice u4 u5 u6]
        | 1 => v = .int .i64 ks
        | 2 => v = .agg #[.int .i64 7, .slice none 0 0, .slice (some ⟨gs, 0, none⟩) 1 1]
        | 3 => v = .int .i64 kw
        | 4 => v = .int .i64 ks
        | 5 => v = .int .i64 kw
        | _ => True) (fun W => Below w5.heap.size w5 W) rfl (by kernel_rfl) (by kernel_rfl) (Bel.drew w5) (fun W W' h h' => bthen h h') Bel.refl (by intro j v W W' hx h; split at h <;> exact h) ?_ ?_
    · intro i oi hoi a W hW need old
      match i, hoi with
      | 0, hoi =>
        simp only [List.getElem?_toArray, List.getElem?_cons_succ, List.getElem?_cons_zero, Option.some.injEq] at hoi
        subst hoi
        refine Reg.ob_plain rfl ?_
        have e1 : a.eval (.tmp 1) = .pointer (some ⟨w.heap.size, 0, none⟩) := old 1 (by kernel_rfl)
        obtain ⟨c0, c1, c2⟩ := Blk.cells3 (Blk.bel S5 hW)
        refine Reg.wp_val (W' := W) (v := .agg #[.int .i64 kd, .slice u1 u2 u3, .slice u4 u5 u6]) (by simp only [execOp, e1, Reg.eval_const, resolve, invoke, builtin, List.map_toArray, List.map_cons, List.map_nil, Option.map_some, Option.map_none]; (first | rfl | go_simp | (go_simp; rfl))) ⟨_, rfl, Bel.refl W, rfl⟩
      | 1, hoi =>
        simp only [List.getElem?_toArray, List.getElem?_cons_succ, List.getElem?_cons_zero, Option.some.injEq] at hoi
        subst hoi
        refine Reg.ob_plain rfl ?_
        have e41 : a.eval (.tmp 41) = .agg #[.int .i64 kd, .slice u1 u2 u3, .slice u4 u5 u6] := need 0 _ 41 rfl rfl (by kernel_rfl)
        refine Reg.wp_call (f := 21) (args := #[.agg #[.int .i64 kd, .slice u1 u2 u3, .slice u4 u5 u6]]) (by simp only [execOp, e41, Reg.eval_const, resolve, invoke, List.map_toArray, List.map_cons, List.map_nil]; go_simp) ?_
        refine (HCK1.out _ (bthen HB5.out hW)).mono ?_
        rintro e W' ⟨rfl, hb⟩; exact ⟨_, rfl, _, rfl, hb, rfl⟩
      | 2, hoi =>
        simp only [List.getElem?_toArray, List.getElem?_cons_succ, List.getElem?_cons_zero, Option.some.injEq] at hoi
        subst hoi
        refine Reg.ob_plain rfl ?_
        have e3 : a.eval (.tmp 3) = .pointer (some ⟨gw, 0, none⟩) := old 3 (by kernel_rfl)
        obtain ⟨c0, c1, c2⟩ := Blk.cells3 (Blk.bel W5 hW)
        refine Reg.wp_val (W' := W) (v := .agg #[.int .i64 7, .slice none 0 0, .slice (some ⟨gs, 0, none⟩) 1 1]) (by simp only [execOp, e3, Reg.eval_const, resolve, invoke, builtin, List.map_toArray, List.map_cons, List.map_nil, Option.map_some, Option.map_none]; (first | rfl | go_simp | (go_simp; rfl))) ⟨_, rfl, Bel.refl W, rfl⟩
      | 3, hoi =>
        simp only [List.getElem?_toArray, List.getElem?_cons_succ, List.getElem?_cons_zero, Option.some.injEq] at hoi
        subst hoi
        refine Reg.ob_plain rfl ?_
        have e43 : a.eval (.tmp 43) = .agg #[.int .i64 7, .slice none 0 0, .slice (some ⟨gs, 0, none⟩) 1 1] := need 2 _ 43 rfl rfl (by kernel_rfl)
        refine Reg.wp_call (f := 21) (args := #[.agg #[.int .i64 7, .slice none 0 0, .slice (some ⟨gs, 0, none⟩) 1 1]]) (by simp only [execOp, e43, Reg.eval_const, resolve, invoke, List.map_toArray, List.map_cons, List.map_nil]; go_simp) ?_
        refine (HCK2.out _ (bthen HB5.out hW)).mono ?_
        rintro e W' ⟨rfl, hb⟩; exact ⟨_, rfl, _, rfl, hb, rfl⟩
      | 4, hoi =>
        simp only [List.getElem?_toArray, List.getElem?_cons_succ, List.getElem?_cons_zero, Option.some.injEq] at hoi
        subst hoi
        refine Reg.ob_plain rfl ?_
        have e42 : a.eval (.tmp 42) = .int .i64 ks := need 1 _ 42 rfl rfl (by kernel_rfl)
        refine Reg.wp_val (W' := W) (v := _) (by simp only [execOp, e42, Reg.eval_const]; rfl) ⟨_, rfl, Bel.refl W, rfl⟩
      | 5, hoi =>
        simp only [List.getElem?_toArray, List.getElem?_cons_succ, List.getElem?_cons_zero, Option.some.injEq] at hoi
        subst hoi
        refine Reg.ob_plain rfl ?_
        have e44 : a.eval (.tmp 44) = .int .i64 kw := need 3 _ 44 rfl rfl (by kernel_rfl)
        refine Reg.wp_val (W' := W) (v := _) (by simp only [execOp, e44, Reg.eval_const]; rfl) ⟨_, rfl, Bel.refl W, rfl⟩
      | n + 6, hoi => simp at hoi
    · intro a w6 hW hsize hdef got same did
      have ha := Reg.act_of [41, 42, 43, 44, 4, 5] hsize hdef same (by kernel_rfl)
      simp only [List.foldl_cons, List.foldl_nil] at ha
      generalize a.tmps.getD 41 undef = y41 at ha
      generalize a.tmps.getD 42 undef = y42 at ha
      generalize a.tmps.getD 43 undef = y43 at ha
      generalize a.tmps.getD 44 undef = y44 at ha
      have k4 := got 4 _ 4 rfl rfl
      simp only at k4
      rw [k4] at ha
      clear k4
      have k5 := got 5 _ 5 rfl rfl
      simp only at k5
      rw [k5] at ha
      clear k5
      clear got same hsize hdef did
      subst ha
      simp only [List.setIfInBounds_toArray, List.set_cons_zero, List.set_cons_succ]

      have HB6 := Lib.hid (bthen HB5.out hW)
      have S6 := Blk.bel S5 hW
      clear hW S5 W5
      obtain ⟨s0, s1, s2⟩ := Blk.cells3 S6
      have HLV : Hid (∀ w', Bel w4 w' → Calls Tryd.prog 16 #[] w' fun e w'' => e = .returned (.bool true) ∧ Bel w' w'') := Lib.hid (fun w' h => lives13 w' (by have := HB4.out.size; have := h.size; omega) (HF.out.bel (bthen HB4.out h)))
      by_cases hE : E = 16
      · obtain rfl : kw = 10 := HKW.out.symm.trans (MShape.wrap_deep HLI.out (by rw [HCN.out]; exact hE))
        subst hE
        go_wp2_with (first | (go_at_call 18; refine (HE1.out _ HB6.out).mono ?_; rintro e w' ⟨rfl, hb⟩; clear s0 s1 s2; have S6 := Blk.bel S6 hb; have HB6 := Lib.hid (bthen HB6.out hb); obtain ⟨s0, s1, s2⟩ := Blk.cells3 S6) | (go_at_call 19; refine (HQ1.out _ HB6.out).mono ?_; rintro e w' ⟨rfl, hb⟩; clear s0 s1 s2; have S6 := Blk.bel S6 hb; have HB6 := Lib.hid (bthen HB6.out hb); obtain ⟨s0, s1, s2⟩ := Blk.cells3 S6) | (go_at_call 16; refine (HLV.out _ HB6.out).mono ?_; rintro e w' ⟨rfl, hb⟩; clear s0 s1 s2; have S6 := Blk.bel S6 hb; have HB6 := Lib.hid (bthen HB6.out hb); obtain ⟨s0, s1, s2⟩ := Blk.cells3 S6))
        go_ret
        exact ⟨by first | rfl | simp, bthen HB4.out HB6.out⟩
      by_cases hQ : Q = 1000
      · obtain rfl : kw = 12 := HKW.out.symm.trans (MShape.wrap_long HLI.out (by rw [HCN.out]; exact hE) (by rw [HCN.out]; exact hQ))
        subst hQ
        go_wp2_with (first | (go_at_call 18; refine (HE1.out _ HB6.out).mono ?_; rintro e w' ⟨rfl, hb⟩; clear s0 s1 s2; have S6 := Blk.bel S6 hb; have HB6 := Lib.hid (bthen HB6.out hb); obtain ⟨s0, s1, s2⟩ := Blk.cells3 S6) | (go_at_call 19; refine (HQ1.out _ HB6.out).mono ?_; rintro e w' ⟨rfl, hb⟩; clear s0 s1 s2; have S6 := Blk.bel S6 hb; have HB6 := Lib.hid (bthen HB6.out hb); obtain ⟨s0, s1, s2⟩ := Blk.cells3 S6) | (go_at_call 16; refine (HLV.out _ HB6.out).mono ?_; rintro e w' ⟨rfl, hb⟩; clear s0 s1 s2; have S6 := Blk.bel S6 hb; have HB6 := Lib.hid (bthen HB6.out hb); obtain ⟨s0, s1, s2⟩ := Blk.cells3 S6))
        go_ret
        exact ⟨by first | rfl | simp, bthen HB4.out HB6.out⟩
      obtain rfl : kw = ks := HKW.out.symm.trans ((MShape.wrap_same HLI.out (by rw [HCN.out]; exact hE) (by rw [HCN.out]; exact hQ)).trans HKS.out)
      go_wp2_with (first | (go_at_call 18; refine (HE1.out _ HB6.out).mono ?_; rintro e w' ⟨rfl, hb⟩; clear s0 s1 s2; have S6 := Blk.bel S6 hb; have HB6 := Lib.hid (bthen HB6.out hb); obtain ⟨s0, s1, s2⟩ := Blk.cells3 S6) | (go_at_call 19; refine (HQ1.out _ HB6.out).mono ?_; rintro e w' ⟨rfl, hb⟩; clear s0 s1 s2; have S6 := Blk.bel S6 hb; have HB6 := Lib.hid (bthen HB6.out hb); obtain ⟨s0, s1, s2⟩ := Blk.cells3 S6) | (go_at_call 16; refine (HLV.out _ HB6.out).mono ?_; rintro e w' ⟨rfl, hb⟩; clear s0 s1 s2; have S6 := Blk.bel S6 hb; have HB6 := Lib.hid (bthen HB6.out hb); obtain ⟨s0, s1, s2⟩ := Blk.cells3 S6))
      go_ret
      exact ⟨by first | rfl | simp, bthen HB4.out HB6.out⟩

end Go.Proofs.YtfknhpgelleenaaDoor.K
