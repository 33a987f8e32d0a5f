/- BlobMakes walked. -/
import Derived.Test.YtfknhpgelleenaaDoorKB
import Derived.Handy
import Derived.Test.YtfknhpgelleenaaDoorWShp
import Derived.Test.YtfknhpgelleenaaDoorWLight
import Derived.Test.YtfknhpgelleenaaDoorWBlob4
namespace Go.Proofs.YtfknhpgelleenaaDoor.K
open Go Go.RowKit Go.Proofs.YtfknhpgelleenaaDoorW.PrintWords Go.Proofs.YtfknhpgelleenaaDoorW.PrintLast Go.Proofs.YtfknhpgelleenaaDoorW.PrintMore
set_option linter.unusedVariables false
set_option linter.unusedSimpArgs false
open Go.Proofs.YtfknhpgelleenaaDoor.MShape (Sh flats light)
theorem blobE : blobB false false 4326 (.mk 1 [(1, 2)] []) = [71, 80, 0, 0, 0, 0, 16, 230, 0, 0, 0, 0, 1, 0, 0, 0, 0, 0, 0, 0, 1, 0, 0, 0, 0, 0, 0, 0, 2] := by decide +kernel
theorem blobS : strOfNums [71, 80, 0, 0, 0, 0, 16, 230] = ⟨#[71, 80, 0, 0, 0, 0, 16, 230]⟩ := by first | rfl | decide +kernel
set_option maxHeartbeats 1000000 in
set_option maxRecDepth 100000 in
theorem lives16 (w : World) (hw2 : 2 ≤ w.heap.size) (hF : FormsAt w) (hN : NowAt w) : Calls Tryd.prog 40 #[] w fun e w' => e = .returned (.bool true) ∧ Bel w w' := by
  have P := Blk.new w #[.int .i64 1, .int .i64 2] 41
  have HB : Hid (Bel w (w.alloc (.cells #[.int .i64 1, .int .i64 2] 41))) := Lib.hid ((Bel.refl w).alloc (Nat.le_refl _) _)
  have hsh : ShB (w.alloc (.cells #[.int .i64 1, .int .i64 2] 41)).heap.size (w.alloc (.cells #[.int .i64 1, .int .i64 2] 41)) 1 (.int .i64 1, .slice (some ⟨w.heap.size, 0, none⟩) 1 1, .slice none 0 0) (.mk 1 [(1, 2)] []) :=
    ⟨rfl, ⟨some ⟨w.heap.size, 0, none⟩, 1, rfl, by simp, by simp, fun i hi => ⟨w.heap.size, 0, rfl, Blk.lt P, match i, hi with
      | 0, _ => ⟨Blk.cell P 0 rfl, Blk.cell P 1 rfl⟩⟩⟩, [], rfl, ⟨none, 0, rfl, by simp, by simp, fun i hi => absurd hi (Nat.not_lt_zero _)⟩, fun i x p hx => by simp at hx⟩
  have HC := Lib.hid (make_calls 1 (.mk 1 [(1, 2)] []) (.int .i64 1, .slice (some ⟨w.heap.size, 0, none⟩) 1 1, .slice none 0 0) 4326 false false _ _ (Nat.le_refl _) (by have := HB.out.size; omega) hsh (hF.bel HB.out) (hN.below hw2 HB.out))
  rw [blobE] at HC
  clear hsh hF hN hw2 P
  go_enter Tryd.func40, Tryd.ntmps40
  go_upto_region 2 with (go_at_call 39; refine (HC.out).mono ?_; rintro e W2 ⟨v2, rfl, hr2, hb2⟩)
  obtain ⟨A, c, hv, hc, hC⟩ := hr2.out.reads
  subst hv
  have q2 : (convert 49 9 (.slice A 8 c)).run Tryd.prog W2 = .ok (.string (strOfNums [71, 80, 0, 0, 0, 0, 16, 230])) W2 := (hC.take 8 (by decide)).str (c := c)
  have hcap : 8 ≤ c := by have h9 : 29 ≤ c := hc; omega
  have HB2 := Lib.hid (bthen HB.out hb2.out)
  clear hr2 hb2 HC hC hc
  rw [blobS] at q2
  go_wp2
  go_ret
  exact ⟨by first | rfl | simp, HB2.out⟩
set_option maxHeartbeats 4000000 in
set_option maxRecDepth 100000 in
theorem makes_calls (D : Nat) (s : Sh) (c : Value × Value × Value) (srs : Int) (o bx : Bool) (w : World) (hw2 : 2 ≤ w.heap.size) (hs : ShB w.heap.size w D c s) (hF : FormsAt w) (hN : NowAt w) :
    Calls Tryd.prog 8 #[.agg #[c.1, c.2.1, c.2.2], .agg #[.int .i64 srs, .bool o, .bool bx]] w fun e w' => e = .returned (.bool true) ∧ Bel w w' := by
  have HL := Lib.hid (fun w1 h => rLight_calls D s c w1 w.heap.size h)
  have HE := Lib.hid (fun W h1 h2 h3 h4 h5 => make_calls D s c srs o bx W w.heap.size h1 h2 h3 h4 h5)
  have HR := Lib.hid (fun W h1 h2 => rmake_calls D s c srs o bx W w.heap.size h1 h2)
  have HS := Lib.hid hs
  obtain ⟨kd, u1, u2, u3, u4, u5, u6, rfl⟩ := hs.forms
  dsimp only at HL HE HR HS ⊢
  have HF := Lib.hid hF
  have HN := Lib.hid hN
  have HW2 := Lib.hid hw2
  clear hs hF hN hw2
  have S := (Blk.new w #[.int .i64 kd, .slice u1 u2 u3, .slice u4 u5 u6] 25).alloc (.cells #[.int .i64 srs, .bool o, .bool bx] 53)
  have H := Blk.new_at (W := w.alloc (.cells #[.int .i64 kd, .slice u1 u2 u3, .slice u4 u5 u6] 25)) (g := w.heap.size + 1) (by simp) #[.int .i64 srs, .bool o, .bool bx] 53
  have HB : Hid (Bel w ((w.alloc (.cells #[.int .i64 kd, .slice u1 u2 u3, .slice u4 u5 u6] 25)).alloc (.cells #[.int .i64 srs, .bool o, .bool bx] 53))) := Lib.hid (((Bel.refl w).alloc (Nat.le_refl _) _).alloc (by simp) _)
  go_enter Tryd.func8, Tryd.ntmps8
  go_upto_region 1 with (fail)
  obtain ⟨W1, hW⟩ : ∃ X, (w.alloc (.cells #[.int .i64 kd, .slice u1 u2 u3, .slice u4 u5 u6] 25)).alloc (.cells #[.int .i64 srs, .bool o, .bool bx] 53) = X := ⟨_, rfl⟩
  rw [hW] at S H HB ⊢
  have HLV1 : Hid (∀ W', Bel W1 W' → Calls Tryd.prog 40 #[] W' fun e w'' => e = .returned (.bool true) ∧ Bel W' w'') := Lib.hid (fun W' h => lives16 W' (by have := HB.out.size; have := h.size; have := HW2.out; omega) (HF.out.bel (bthen HB.out h)) (HN.out.below HW2.out (bthen HB.out h)))
  have HE1 : Hid (∀ W', Bel W1 W' → Calls Tryd.prog 39 #[.agg #[.int .i64 kd, .slice u1 u2 u3, .slice u4 u5 u6], .int .i64 srs, .bool o, .bool bx] W' fun e w'' => ∃ v, e = .returned v ∧ Hid (RB W' w'' v (blobB o bx srs s)) ∧ Hid (Bel W' w'')) := Lib.hid (fun W' h => HE.out W' (bthen HB.out h).size (by have := (bthen HB.out h).size; have := HW2.out; omega) (HS.out.keep (KeepB.bel (bthen HB.out h))) (HF.out.bel (bthen HB.out h)) (HN.out.below HW2.out (bthen HB.out h)))
  have HR1 : Hid (∀ W', Bel W1 W' → Calls Tryd.prog 41 #[.agg #[.int .i64 kd, .slice u1 u2 u3, .slice u4 u5 u6], .int .i64 srs, .bool o, .bool bx] W' fun e w'' => ∃ v, e = .returned v ∧ Hid (RB W' w'' v (blobB o bx srs s)) ∧ Hid (Bel W' w'')) := Lib.hid (fun W' h => HR.out W' (bthen HB.out h).size (HS.out.keep (KeepB.bel (bthen HB.out h))))
  obtain ⟨gs, hg⟩ : ∃ X, w.heap.size = X := ⟨_, rfl⟩
  have HC1 := Lib.hid (HL.out W1 HB.out.size (HS.out.keep (KeepB.bel HB.out)))
  rw [hg] at S H ⊢
  obtain ⟨gh, hg2⟩ : ∃ X, gs + 1 = X := ⟨_, rfl⟩
  rw [hg2] at H ⊢
  clear hW hg hg2
  obtain ⟨s0, s1, s2⟩ := Blk.cells3 S
  have HSB := Lib.hid S
  have HHB := Lib.hid H
  clear S H HL HE HR
  cases hl : light s
  · have hX : blobB o bx srs s = [] := by unfold blobB; rw [if_neg (fun e => by have h9 := check_light e.1; rw [hl] at h9; cases h9)]
    rw [hl] at HC1
    rw [hX] at HE1
    clear hX hl
    go_wp2_with (first
      | (go_at_call 40; refine (HLV1.out _ hb3.out).mono ?_; rintro e W5 ⟨rfl, hb5⟩)
      | (go_at_call 39; refine (HE1.out W2 hb2.out).mono ?_; rintro e W3 ⟨v3, rfl, hr3, hb3⟩; obtain ⟨A3, c3, hv3, -, -⟩ := hr3.out.reads; subst hv3; have hb3 := Lib.hid (bthen hb2.out hb3.out))
      | (go_at_call 15; refine (HC1.out).mono ?_; rintro e W2 ⟨rfl, hb2⟩; have hb2 := Lib.hid hb2; clear s0 s1 s2; obtain ⟨s0, s1, s2⟩ := Blk.cells3 (Blk.bel HSB.out hb2.out); obtain ⟨h0, h1, h2⟩ := Blk.cells3 (Blk.bel HHB.out hb2.out)))
    go_ret
    exact ⟨by first | rfl | simp, bthen HB.out (bthen hb3.out hb5)⟩
  rw [hl] at HC1
  clear hl
  obtain ⟨X, hX⟩ : ∃ X, blobB o bx srs s = X := ⟨_, rfl⟩
  rw [hX] at HE1 HR1
  clear hX
  go_upto_region 3 with (go_at_call 15; refine (HC1.out).mono ?_; rintro e w5 ⟨rfl, hb2⟩)
  have HB5 := Lib.hid hb2
  have HS6 := Lib.hid (Blk.bel HSB.out hb2)
  have HH6 := Lib.hid (Blk.bel HHB.out hb2)
  have HM : Hid (∀ W', Bel w5 W' → Calls Tryd.prog 39 #[.agg #[.int .i64 kd, .slice u1 u2 u3, .slice u4 u5 u6], .int .i64 srs, .bool o, .bool bx] W' fun e w'' => ∃ v, e = .returned v ∧ Hid (RB W' w'' v X) ∧ Hid (Bel W' w'')) := Lib.hid (fun W' h => HE1.out W' (bthen HB5.out h))
  have HRM : Hid (∀ W', Bel w5 W' → Calls Tryd.prog 41 #[.agg #[.int .i64 kd, .slice u1 u2 u3, .slice u4 u5 u6], .int .i64 srs, .bool o, .bool bx] W' fun e w'' => ∃ v, e = .returned v ∧ Hid (RB W' w'' v X) ∧ Hid (Bel W' w'')) := Lib.hid (fun W' h => HR1.out W' (bthen HB5.out h))
  have HLV : Hid (∀ W', Bel w5 W' → Calls Tryd.prog 40 #[] W' fun e w'' => e = .returned (.bool true) ∧ Bel W' w'') := Lib.hid (fun W' h => HLV1.out W' (bthen HB5.out h))
  clear s0 s1 s2 hb2
  refine Reg.region_mono (P := Tryd.prog) (Ext := Bel) (R := fun i v W => match i with
      | 0 => v = .agg #[.int .i64 kd, .slice u1 u2 u3, .slice u4 u5 u6]
      | 1 => v = .pointer (some ⟨gh, 0, none⟩)
      | 2 => v = .int .i64 srs
      | 3 => v = .pointer (some ⟨gh, 1, none⟩)
      | 4 => v = .bool o
      | 5 => v = .pointer (some ⟨gh, 2, none⟩)
      | 6 => v = .bool bx
      | 7 => RB w5 W v X
      | 8 => v = .string (strOfNums X)
      | 9 => v = .agg #[.int .i64 kd, .slice u1 u2 u3, .slice u4 u5 u6]
      | 10 => v = .pointer (some ⟨gh, 0, none⟩)
      | 11 => v = .int .i64 srs
      | 12 => v = .pointer (some ⟨gh, 1, none⟩)
      | 13 => v = .bool o
      | 14 => v = .pointer (some ⟨gh, 2, none⟩)
      | 15 => v = .bool bx
      | 16 => RB w5 W v X
      | 17 => v = .string (strOfNums X)
      | 18 => v = .bool true
      | 19 => v = .bool true
      | 20 => v = .bool true
      | 21 => v = .bool true
      | 22 => v = .bool true
      | _ => True) (fun W => Below w5.heap.size w5 W) rfl (by kernel_rfl) (by kernel_rfl) (Bel.drew w5) (fun W W' h h' => bthen h h') Bel.refl (by intro j v W W' hx h; split at h <;> first | exact h | exact RB.below h hx) ?_ ?_
  · intro i oi hoi a W hW need old
    match i, hoi with
    | 0, hoi =>
      simp only [List.getElem?_toArray, List.getElem?_cons_succ, List.getElem?_cons_zero, Option.some.injEq] at hoi
      subst hoi
      refine Reg.ob_plain rfl ?_
      have e2 : a.eval (.tmp 2) = .pointer (some ⟨gs, 0, none⟩) := old 2 (by kernel_rfl)
      obtain ⟨c0, c1, c2⟩ := Blk.cells3 (Blk.bel HS6.out hW)
      refine Reg.wp_val (W' := W) (v := .agg #[.int .i64 kd, .slice u1 u2 u3, .slice u4 u5 u6]) (by simp only [execOp, e2, Reg.eval_const, resolve, invoke, builtin, List.map_toArray, List.map_cons, List.map_nil, Option.map_some, Option.map_none]; (first | rfl | go_simp | (go_simp; rfl))) ⟨_, rfl, Bel.refl W, rfl⟩
    | 1, hoi =>
      simp only [List.getElem?_toArray, List.getElem?_cons_succ, List.getElem?_cons_zero, Option.some.injEq] at hoi
      subst hoi
      refine Reg.ob_plain rfl ?_
      have e3 : a.eval (.tmp 3) = .pointer (some ⟨gh, 0, none⟩) := old 3 (by kernel_rfl)
      refine Reg.wp_val (W' := W) (v := .pointer (some ⟨gh, 0, none⟩)) (by simp only [execOp, e3, Reg.eval_const, resolve, invoke, builtin, List.map_toArray, List.map_cons, List.map_nil, Option.map_some, Option.map_none]; (first | rfl | go_simp | (go_simp; rfl))) ⟨_, rfl, Bel.refl W, rfl⟩
    | 2, hoi =>
      simp only [List.getElem?_toArray, List.getElem?_cons_succ, List.getElem?_cons_zero, Option.some.injEq] at hoi
      subst hoi
      refine Reg.ob_plain rfl ?_
      have e22 : a.eval (.tmp 22) = .pointer (some ⟨gh, 0, none⟩) := need 1 _ 22 rfl rfl (by kernel_rfl)
      obtain ⟨c0, c1, c2⟩ := Blk.cells3 (Blk.bel HH6.out hW)
      refine Reg.wp_val (W' := W) (v := .int .i64 srs) (by simp only [execOp, e22, Reg.eval_const, resolve, invoke, builtin, List.map_toArray, List.map_cons, List.map_nil, Option.map_some, Option.map_none]; (first | rfl | go_simp | (go_simp; rfl))) ⟨_, rfl, Bel.refl W, rfl⟩
    | 3, hoi =>
      simp only [List.getElem?_toArray, List.getElem?_cons_succ, List.getElem?_cons_zero, Option.some.injEq] at hoi
      subst hoi
      refine Reg.ob_plain rfl ?_
      have e3 : a.eval (.tmp 3) = .pointer (some ⟨gh, 0, none⟩) := old 3 (by kernel_rfl)
      refine Reg.wp_val (W' := W) (v := .pointer (some ⟨gh, 1, none⟩)) (by simp only [execOp, e3, Reg.eval_const, resolve, invoke, builtin, List.map_toArray, List.map_cons, List.map_nil, Option.map_some, Option.map_none]; (first | rfl | go_simp | (go_simp; rfl))) ⟨_, rfl, Bel.refl W, rfl⟩
    | 4, hoi =>
      simp only [List.getElem?_toArray, List.getElem?_cons_succ, List.getElem?_cons_zero, Option.some.injEq] at hoi
      subst hoi
      refine Reg.ob_plain rfl ?_
      have e24 : a.eval (.tmp 24) = .pointer (some ⟨gh, 1, none⟩) := need 3 _ 24 rfl rfl (by kernel_rfl)
      obtain ⟨c0, c1, c2⟩ := Blk.cells3 (Blk.bel HH6.out hW)
      refine Reg.wp_val (W' := W) (v := .bool o) (by simp only [execOp, e24, Reg.eval_const, resolve, invoke, builtin, List.map_toArray, List.map_cons, List.map_nil, Option.map_some, Option.map_none]; (first | rfl | go_simp | (go_simp; rfl))) ⟨_, rfl, Bel.refl W, rfl⟩
    | 5, hoi =>
      simp only [List.getElem?_toArray, List.getElem?_cons_succ, List.getElem?_cons_zero, Option.some.injEq] at hoi
      subst hoi
      refine Reg.ob_plain rfl ?_
      have e3 : a.eval (.tmp 3) = .pointer (some ⟨gh, 0, none⟩) := old 3 (by kernel_rfl)
      refine Reg.wp_val (W' := W) (v := .pointer (some ⟨gh, 2, none⟩)) (by simp only [execOp, e3, Reg.eval_const, resolve, invoke, builtin, List.map_toArray, List.map_cons, List.map_nil, Option.map_some, Option.map_none]; (first | rfl | go_simp | (go_simp; rfl))) ⟨_, rfl, Bel.refl W, rfl⟩
    | 6, hoi =>
      simp only [List.getElem?_toArray, List.getElem?_cons_succ, List.getElem?_cons_zero, Option.some.injEq] at hoi
      subst hoi
      refine Reg.ob_plain rfl ?_
      have e26 : a.eval (.tmp 26) = .pointer (some ⟨gh, 2, none⟩) := need 5 _ 26 rfl rfl (by kernel_rfl)
      obtain ⟨c0, c1, c2⟩ := Blk.cells3 (Blk.bel HH6.out hW)
      refine Reg.wp_val (W' := W) (v := .bool bx) (by simp only [execOp, e26, Reg.eval_const, resolve, invoke, builtin, List.map_toArray, List.map_cons, List.map_nil, Option.map_some, Option.map_none]; (first | rfl | go_simp | (go_simp; rfl))) ⟨_, rfl, Bel.refl W, rfl⟩
    | 7, hoi =>
      simp only [List.getElem?_toArray, List.getElem?_cons_succ, List.getElem?_cons_zero, Option.some.injEq] at hoi
      subst hoi
      refine Reg.ob_plain rfl ?_
      have e21 : a.eval (.tmp 21) = .agg #[.int .i64 kd, .slice u1 u2 u3, .slice u4 u5 u6] := need 0 _ 21 rfl rfl (by kernel_rfl)
      have e23 : a.eval (.tmp 23) = .int .i64 srs := need 2 _ 23 rfl rfl (by kernel_rfl)
      have e25 : a.eval (.tmp 25) = .bool o := need 4 _ 25 rfl rfl (by kernel_rfl)
      have e27 : a.eval (.tmp 27) = .bool bx := need 6 _ 27 rfl rfl (by kernel_rfl)
      refine Reg.wp_call (f := 39) (args := #[.agg #[.int .i64 kd, .slice u1 u2 u3, .slice u4 u5 u6], .int .i64 srs, .bool o, .bool bx]) (by simp only [execOp, e21, e23, e25, e27, Reg.eval_const, resolve, invoke, List.map_toArray, List.map_cons, List.map_nil]; go_simp) ?_
      refine (HM.out W hW).mono ?_
      rintro e W' ⟨v, rfl, hr, hb⟩; exact ⟨v, rfl, v, rfl, hb.out, hr.out.lower hW.size⟩
    | 8, hoi =>
      simp only [List.getElem?_toArray, List.getElem?_cons_succ, List.getElem?_cons_zero, Option.some.injEq] at hoi
      subst hoi
      refine Reg.ob_plain rfl ?_
      have r28 := need 7 _ 28 rfl rfl (by kernel_rfl)
      simp only at r28
      obtain ⟨x28, e28⟩ : ∃ x, a.eval (.tmp 28) = x := ⟨_, rfl⟩
      rw [← Reg.eval_tmp, e28] at r28
      have hs9 := r28.str
      refine Reg.wp_val (W' := W) (v := .string (strOfNums X)) (by simp only [execOp, e28, Reg.eval_const, resolve, invoke, builtin, List.map_toArray, List.map_cons, List.map_nil, Option.map_some, Option.map_none]; (first | rfl | go_simp | (go_simp; rfl))) ⟨_, rfl, Bel.refl W, rfl⟩
    | 9, hoi =>
      simp only [List.getElem?_toArray, List.getElem?_cons_succ, List.getElem?_cons_zero, Option.some.injEq] at hoi
      subst hoi
      refine Reg.ob_plain rfl ?_
      have e2 : a.eval (.tmp 2) = .pointer (some ⟨gs, 0, none⟩) := old 2 (by kernel_rfl)
      obtain ⟨c0, c1, c2⟩ := Blk.cells3 (Blk.bel HS6.out hW)
      refine Reg.wp_val (W' := W) (v := .agg #[.int .i64 kd, .slice u1 u2 u3, .slice u4 u5 u6]) (by simp only [execOp, e2, Reg.eval_const, resolve, invoke, builtin, List.map_toArray, List.map_cons, List.map_nil, Option.map_some, Option.map_none]; (first | rfl | go_simp | (go_simp; rfl))) ⟨_, rfl, Bel.refl W, rfl⟩
    | 10, hoi =>
      simp only [List.getElem?_toArray, List.getElem?_cons_succ, List.getElem?_cons_zero, Option.some.injEq] at hoi
      subst hoi
      refine Reg.ob_plain rfl ?_
      have e3 : a.eval (.tmp 3) = .pointer (some ⟨gh, 0, none⟩) := old 3 (by kernel_rfl)
      refine Reg.wp_val (W' := W) (v := .pointer (some ⟨gh, 0, none⟩)) (by simp only [execOp, e3, Reg.eval_const, resolve, invoke, builtin, List.map_toArray, List.map_cons, List.map_nil, Option.map_some, Option.map_none]; (first | rfl | go_simp | (go_simp; rfl))) ⟨_, rfl, Bel.refl W, rfl⟩
    | 11, hoi =>
      simp only [List.getElem?_toArray, List.getElem?_cons_succ, List.getElem?_cons_zero, Option.some.injEq] at hoi
      subst hoi
      refine Reg.ob_plain rfl ?_
      have e31 : a.eval (.tmp 31) = .pointer (some ⟨gh, 0, none⟩) := need 10 _ 31 rfl rfl (by kernel_rfl)
      obtain ⟨c0, c1, c2⟩ := Blk.cells3 (Blk.bel HH6.out hW)
      refine Reg.wp_val (W' := W) (v := .int .i64 srs) (by simp only [execOp, e31, Reg.eval_const, resolve, invoke, builtin, List.map_toArray, List.map_cons, List.map_nil, Option.map_some, Option.map_none]; (first | rfl | go_simp | (go_simp; rfl))) ⟨_, rfl, Bel.refl W, rfl⟩
    | 12, hoi =>
      simp only [List.getElem?_toArray, List.getElem?_cons_succ, List.getElem?_cons_zero, Option.some.injEq] at hoi
      subst hoi
      refine Reg.ob_plain rfl ?_
      have e3 : a.eval (.tmp 3) = .pointer (some ⟨gh, 0, none⟩) := old 3 (by kernel_rfl)
      refine Reg.wp_val (W' := W) (v := .pointer (some ⟨gh, 1, none⟩)) (by simp only [execOp, e3, Reg.eval_const, resolve, invoke, builtin, List.map_toArray, List.map_cons, List.map_nil, Option.map_some, Option.map_none]; (first | rfl | go_simp | (go_simp; rfl))) ⟨_, rfl, Bel.refl W, rfl⟩
    | 13, hoi =>
      simp only [List.getElem?_toArray, List.getElem?_cons_succ, List.getElem?_cons_zero, Option.some.injEq] at hoi
      subst hoi
      refine Reg.ob_plain rfl ?_
      have e33 : a.eval (.tmp 33) = .pointer (some ⟨gh, 1, none⟩) := need 12 _ 33 rfl rfl (by kernel_rfl)
      obtain ⟨c0, c1, c2⟩ := Blk.cells3 (Blk.bel HH6.out hW)
      refine Reg.wp_val (W' := W) (v := .bool o) (by simp only [execOp, e33, Reg.eval_const, resolve, invoke, builtin, List.map_toArray, List.map_cons, List.map_nil, Option.map_some, Option.map_none]; (first | rfl | go_simp | (go_simp; rfl))) ⟨_, rfl, Bel.refl W, rfl⟩
    | 14, hoi =>
      simp only [List.getElem?_toArray, List.getElem?_cons_succ, List.getElem?_cons_zero, Option.some.injEq] at hoi
      subst hoi
      refine Reg.ob_plain rfl ?_
      have e3 : a.eval (.tmp 3) = .pointer (some ⟨gh, 0, none⟩) := old 3 (by kernel_rfl)
      refine Reg.wp_val (W' := W) (v := .pointer (some ⟨gh, 2, none⟩)) (by simp only [execOp, e3, Reg.eval_const, resolve, invoke, builtin, List.map_toArray, List.map_cons, List.map_nil, Option.map_some, Option.map_none]; (first | rfl | go_simp | (go_simp; rfl))) ⟨_, rfl, Bel.refl W, rfl⟩
    | 15, hoi =>
      simp only [List.getElem?_toArray, List.getElem?_cons_succ, List.getElem?_cons_zero, Option.some.injEq] at hoi
      subst hoi
      refine Reg.ob_plain rfl ?_
      have e35 : a.eval (.tmp 35) = .pointer (some ⟨gh, 2, none⟩) := need 14 _ 35 rfl rfl (by kernel_rfl)
      obtain ⟨c0, c1, c2⟩ := Blk.cells3 (Blk.bel HH6.out hW)
      refine Reg.wp_val (W' := W) (v := .bool bx) (by simp only [execOp, e35, Reg.eval_const, resolve, invoke, builtin, List.map_toArray, List.map_cons, List.map_nil, Option.map_some, Option.map_none]; (first | rfl | go_simp | (go_simp; rfl))) ⟨_, rfl, Bel.refl W, rfl⟩
    | 16, hoi =>
      simp only [List.getElem?_toArray, List.getElem?_cons_succ, List.getElem?_cons_zero, Option.some.injEq] at hoi
      subst hoi
      refine Reg.ob_plain rfl ?_
      have e30 : a.eval (.tmp 30) = .agg #[.int .i64 kd, .slice u1 u2 u3, .slice u4 u5 u6] := need 9 _ 30 rfl rfl (by kernel_rfl)
      have e32 : a.eval (.tmp 32) = .int .i64 srs := need 11 _ 32 rfl rfl (by kernel_rfl)
      have e34 : a.eval (.tmp 34) = .bool o := need 13 _ 34 rfl rfl (by kernel_rfl)
      have e36 : a.eval (.tmp 36) = .bool bx := need 15 _ 36 rfl rfl (by kernel_rfl)
      refine Reg.wp_call (f := 41) (args := #[.agg #[.int .i64 kd, .slice u1 u2 u3, .slice u4 u5 u6], .int .i64 srs, .bool o, .bool bx]) (by simp only [execOp, e30, e32, e34, e36, Reg.eval_const, resolve, invoke, List.map_toArray, List.map_cons, List.map_nil]; go_simp) ?_
      refine (HRM.out W hW).mono ?_
      rintro e W' ⟨v, rfl, hr, hb⟩; exact ⟨v, rfl, v, rfl, hb.out, hr.out.lower hW.size⟩
    | 17, hoi =>
      simp only [List.getElem?_toArray, List.getElem?_cons_succ, List.getElem?_cons_zero, Option.some.injEq] at hoi
      subst hoi
      refine Reg.ob_plain rfl ?_
      have r37 := need 16 _ 37 rfl rfl (by kernel_rfl)
      simp only at r37
      obtain ⟨x37, e37⟩ : ∃ x, a.eval (.tmp 37) = x := ⟨_, rfl⟩
      rw [← Reg.eval_tmp, e37] at r37
      have hs9 := r37.str
      refine Reg.wp_val (W' := W) (v := .string (strOfNums X)) (by simp only [execOp, e37, Reg.eval_const, resolve, invoke, builtin, List.map_toArray, List.map_cons, List.map_nil, Option.map_some, Option.map_none]; (first | rfl | go_simp | (go_simp; rfl))) ⟨_, rfl, Bel.refl W, rfl⟩
    | 18, hoi =>
      simp only [List.getElem?_toArray, List.getElem?_cons_succ, List.getElem?_cons_zero, Option.some.injEq] at hoi
      subst hoi
      refine Reg.ob_plain rfl ?_
      have e29 : a.eval (.tmp 29) = .string (strOfNums X) := need 8 _ 29 rfl rfl (by kernel_rfl)
      have e38 : a.eval (.tmp 38) = .string (strOfNums X) := need 17 _ 38 rfl rfl (by kernel_rfl)
      have hbb := beq_self_eq_true ((strOfNums X).toList)
      refine Reg.wp_val (W' := W) (v := .bool true) (by simp only [execOp, e29, e38, Reg.eval_const, resolve, invoke, builtin, List.map_toArray, List.map_cons, List.map_nil, Option.map_some, Option.map_none]; (first | rfl | go_simp | (go_simp; rfl))) ⟨_, rfl, Bel.refl W, rfl⟩
    | 19, hoi =>
      simp only [List.getElem?_toArray, List.getElem?_cons_succ, List.getElem?_cons_zero, Option.some.injEq] at hoi
      subst hoi
      refine Reg.ob_plain rfl ?_
      have e39 : a.eval (.tmp 39) = .bool true := need 18 _ 39 rfl rfl (by kernel_rfl)
      refine Reg.wp_val (W' := W) (v := _) (by simp only [execOp, e39, Reg.eval_const]; rfl) ⟨_, rfl, Bel.refl W, rfl⟩
    | 20, hoi =>
      simp only [List.getElem?_toArray, List.getElem?_cons_succ, List.getElem?_cons_zero, Option.some.injEq] at hoi
      subst hoi
      have eg : a.eval (.tmp 40) = .bool true := need 19 _ 40 rfl rfl (by kernel_rfl)
      refine Reg.ob_yes rfl rfl rfl eg ?_
      refine Reg.wp_call (f := 40) (args := #[]) (by simp only [execOp, Reg.eval_const, resolve, invoke, List.map_toArray, List.map_cons, List.map_nil]; go_simp) ?_
      refine (HLV.out W hW).mono ?_
      rintro e W' ⟨rfl, hb⟩; exact ⟨_, rfl, _, rfl, hb, rfl⟩
    | 21, hoi =>
      simp only [List.getElem?_toArray, List.getElem?_cons_succ, List.getElem?_cons_zero, Option.some.injEq] at hoi
      subst hoi
      refine Reg.ob_plain rfl ?_
      have e40 : a.eval (.tmp 40) = .bool true := need 19 _ 40 rfl rfl (by kernel_rfl)
      have e41 : a.eval (.tmp 41) = .bool true := need 20 _ 41 rfl rfl (by kernel_rfl)
      refine Reg.wp_val (W' := W) (v := .bool true) (by simp only [execOp, e40, e41, Reg.eval_const, resolve, invoke, builtin, List.map_toArray, List.map_cons, List.map_nil, Option.map_some, Option.map_none]; (first | rfl | go_simp | (go_simp; rfl))) ⟨_, rfl, Bel.refl W, rfl⟩
    | 22, hoi =>
      simp only [List.getElem?_toArray, List.getElem?_cons_succ, List.getElem?_cons_zero, Option.some.injEq] at hoi
      subst hoi
      refine Reg.ob_plain rfl ?_
      have e42 : a.eval (.tmp 42) = .bool true := need 21 _ 42 rfl rfl (by kernel_rfl)
      refine Reg.wp_val (W' := W) (v := _) (by simp only [execOp, e42, Reg.eval_const]; rfl) ⟨_, rfl, Bel.refl W, rfl⟩
    | n + 23, hoi => simp at hoi
  · intro a w9 hW hsize hdef got same did
    have ha := Reg.act_of [21, 22, 23, 24, 25, 26, 27, 28, 29, 30, 31, 32, 33, 34, 35, 36, 37, 38, 39, 40, 41, 42, 4] hsize hdef same (by kernel_rfl)
    simp only [List.foldl_cons, List.foldl_nil] at ha
    generalize a.tmps.getD 21 undef = y21 at ha
    generalize a.tmps.getD 22 undef = y22 at ha
    generalize a.tmps.getD 23 undef = y23 at ha
    generalize a.tmps.getD 24 undef = y24 at ha
    generalize a.tmps.getD 25 undef = y25 at ha
    generalize a.tmps.getD 26 undef = y26 at ha
    generalize a.tmps.getD 27 undef = y27 at ha
    generalize a.tmps.getD 28 undef = y28 at ha
    generalize a.tmps.getD 29 undef = y29 at ha
    generalize a.tmps.getD 30 undef = y30 at ha
    generalize a.tmps.getD 31 undef = y31 at ha
    generalize a.tmps.getD 32 undef = y32 at ha
    generalize a.tmps.getD 33 undef = y33 at ha
    generalize a.tmps.getD 34 undef = y34 at ha
    generalize a.tmps.getD 35 undef = y35 at ha
    generalize a.tmps.getD 36 undef = y36 at ha
    generalize a.tmps.getD 37 undef = y37 at ha
    generalize a.tmps.getD 38 undef = y38 at ha
    generalize a.tmps.getD 39 undef = y39 at ha
    generalize a.tmps.getD 40 undef = y40 at ha
    generalize a.tmps.getD 41 undef = y41 at ha
    generalize a.tmps.getD 42 undef = y42 at ha
    have k4 := got 22 _ 4 rfl rfl
    simp only at k4
    rw [k4] at ha
    clear k4
    clear got same hsize hdef did
    subst ha
    simp only [List.setIfInBounds_toArray, List.set_cons_zero, List.set_cons_succ]
    go_wp2
    go_ret
    exact ⟨by first | rfl | simp, bthen HB.out (bthen HB5.out hW)⟩
theorem BlobMakes_calls {w : World} (cs : Array Value) (s : Sh) (hK : KSh.K w s cs.toList) (hq : shOk s) (cs' : Array Value) (x : Int × Bool × Bool) (hK' : (Kd.pair (Kd.int .i64) (Kd.pair Kd.bool Kd.bool)).K w x cs'.toList) (hw2 : 2 ≤ w.heap.size) (hF : FormsAt w) (hN : NowAt w) :
    Calls Tryd.prog 8 #[.agg cs, .agg cs'] w fun e w' => e = .returned (.bool true) ∧ Below w.heap.size w w' := by
  obtain ⟨d, c, hc, hs⟩ := hK
  obtain ⟨c0, c1, e, h0, c2, c3, e2, h1, h2⟩ := hK'
  obtain rfl : c0 = [.int .i64 x.1] := h0
  obtain rfl : c2 = [.bool x.2.1] := h1
  obtain rfl : c3 = [.bool x.2.2] := h2
  subst e2
  obtain ⟨l⟩ := cs
  obtain ⟨l'⟩ := cs'
  simp at hc e
  subst hc e
  exact makes_calls d s c x.1 x.2.1 x.2.2 w hw2 hs hF hN

end Go.Proofs.YtfknhpgelleenaaDoor.K
