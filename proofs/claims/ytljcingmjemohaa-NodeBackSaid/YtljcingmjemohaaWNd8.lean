/- NodeForms walked. -/
import Derived.Test.YtljcingmjemohaaKB
import Derived.Handy
import Derived.Test.YtljcingmjemohaaWNd6
import Derived.Test.YtljcingmjemohaaWNd7
namespace Go.Proofs.Ytljcingmjemohaa.K
open Go Go.RowKit Go.Proofs.YtljcingmjemohaaW.PrintWords Go.Proofs.YtljcingmjemohaaW.PrintLast Go.Proofs.YtljcingmjemohaaW.PrintMore
set_option linter.unusedVariables false
set_option linter.unusedSimpArgs false
open Go.Proofs.Ytljcingmjemohaa.MBox (Bx noneB)
open Go.Proofs.Ytljcingmjemohaa.MChoose (En En0)
open Go.Proofs.Ytljcingmjemohaa.MNd
open Go.Proofs.Ytljcingmjemohaa.MBox (has good)
theorem Blk.cells2 {W : World} {g t : Nat} {a b : Value} (hb : Blk W g #[a, b] t) : W.cell? ⟨g, 0, none⟩ = some a ∧ W.cell? ⟨g, 1, none⟩ = some b := ⟨hb.cell 0 rfl, hb.cell 1 rfl⟩
set_option maxHeartbeats 4000000 in
set_option maxRecDepth 100000 in
theorem lives18 (w : World) : Calls Try.prog 10 #[] w fun e w' => e = .returned (.bool true) ∧ Bel w w' := by
  have HNB : Hid (Calls Try.prog 14 #[.agg #[.int .i64 0, .slice none 0 0]] w fun e w' => ∃ v, e = .returned v ∧ Hid (RB w w' v [0, 0]) ∧ Hid (Bel w w')) := Lib.hid (by
    have := nbytes_calls 0 none 0 [] w (CE.nil w) (Nat.le_refl _) (fun x hx => by simp at hx)
    rw [show bytesN 0 [] = [0, 0] by decide] at this
    exact this)
  go_enter Try.func10, Try.ntmps10
  go_wp2_with (go_at_call 14; refine (HNB.out).mono ?_; rintro e w1 ⟨v, rfl, hr, hb⟩; obtain ⟨A, c, hv, -, -⟩ := hr.out.reads; subst hv; have B1 := Lib.hid hb.out; clear hr hb)
  go_ret
  exact ⟨by first | rfl | simp, B1.out⟩
set_option maxHeartbeats 4000000 in
set_option maxRecDepth 100000 in
theorem forms_calls (lv1 lv2 id : Int) (A1 A2 : Option Addr) (c1 c2 : Nat) (l1 l2 : List En) (w : World) (h1 : CE w A1 l1) (hc1 : l1.length ≤ c1) (hw1 : ∀ x ∈ l1, (Lit.int .i64 x.id).wf = true) (h2 : CE w A2 l2) (hc2 : l2.length ≤ c2) :
    Calls Try.prog 3 #[.agg #[.int .i64 lv1, .slice A1 l1.length c1], .agg #[.int .i64 lv2, .slice A2 l2.length c2], .int .i64 id] w fun e w' => e = .returned (.bool true) ∧ Bel w w' := by
  have HX1 := Lib.hid h1
  have HX2 := Lib.hid h2
  have HC1 := Lib.hid hc1
  have HC2 := Lib.hid hc2
  have HWF := Lib.hid hw1
  have N := (Blk.new w #[.int .i64 lv1, .slice A1 l1.length c1] 24).alloc (.cells #[.int .i64 lv2, .slice A2 l2.length c2] 24)
  have M := Blk.new_at (W := w.alloc (.cells #[.int .i64 lv1, .slice A1 l1.length c1] 24)) (g := w.heap.size + 1) (by simp) #[.int .i64 lv2, .slice A2 l2.length c2] 24
  have HB : Hid (Bel w ((w.alloc (.cells #[.int .i64 lv1, .slice A1 l1.length c1] 24)).alloc (.cells #[.int .i64 lv2, .slice A2 l2.length c2] 24))) := Lib.hid (((Bel.refl w).alloc (Nat.le_refl _) _).alloc (by simp) _)
  clear h1 h2 hc1 hc2 hw1
  obtain ⟨n1, hn1⟩ : ∃ n, l1.length = n := ⟨_, rfl⟩
  obtain ⟨n2, hn2⟩ : ∃ n, l2.length = n := ⟨_, rfl⟩
  have HL1 := Lib.hid hn1
  have HL2 := Lib.hid hn2
  rw [hn1, hn2] at N M HB ⊢
  rw [hn1] at HC1
  rw [hn2] at HC2
  clear hn1 hn2
  go_enter Try.func3, Try.ntmps3
  go_upto_region 1 with (fail)
  obtain ⟨W, hW⟩ : ∃ Y, (w.alloc (.cells #[.int .i64 lv1, .slice A1 n1 c1] 24)).alloc (.cells #[.int .i64 lv2, .slice A2 n2 c2] 24) = Y := ⟨_, rfl⟩
  rw [hW] at N M HB ⊢
  clear hW
  obtain ⟨gn, hgn⟩ : ∃ x, w.heap.size = x := ⟨_, rfl⟩
  rw [hgn] at N M ⊢
  obtain ⟨gm, hgm⟩ : ∃ x, gn + 1 = x := ⟨_, rfl⟩
  rw [hgm] at M ⊢
  clear hgn hgm
  obtain ⟨z0, z1⟩ := Blk.cells2 N
  obtain ⟨y0, y1⟩ := Blk.cells2 M
  have HN1 := Lib.hid N
  have HM1 := Lib.hid M
  clear N M
  by_cases g1 : 100 < n1
  · have g1' : (100 : Int) < n1 := by omega
    go_wp2_with (go_at_call 10; refine (lives18 _).mono ?_; rintro e w2 ⟨rfl, hb2⟩; have HB2 := Lib.hid (bthen HB.out hb2); clear hb2)
    go_ret
    exact ⟨rfl, HB2.out⟩
  have g1' : ¬ (100 : Int) < n1 := by omega
  by_cases g2 : 100 < n2
  · have g2' : (100 : Int) < n2 := by omega
    go_wp2_with (go_at_call 10; refine (lives18 _).mono ?_; rintro e w2 ⟨rfl, hb2⟩; have HB2 := Lib.hid (bthen HB.out hb2); clear hb2)
    go_ret
    exact ⟨rfl, HB2.out⟩
  have g2' : ¬ (100 : Int) < n2 := by omega
  have HG12 := Lib.hid (show n1 ≤ 100 ∧ n2 ≤ 100 by omega)
  clear g1 g2
  have HPC : Hid (Calls Try.prog 11 #[.agg #[.int .i64 lv1, .slice A1 n1 c1]] W fun e w' => ∃ A' c', e = .returned (.agg #[.int .i64 lv1, .slice A' n1 c']) ∧ Hid (n1 ≤ c') ∧ Hid (CE w' A' l1) ∧ Hid (Bel W w')) := Lib.hid (by
    have := plain_calls lv1 A1 c1 l1 W (HX1.out.below HB.out) (by rw [HL1.out]; have := HG12.out; omega)
    rw [HL1.out] at this
    exact this)
  go_upto_region 4 with (go_at_call 11; refine (HPC.out).mono ?_; rintro e w4 ⟨AP, cp, rfl, hk4, hC4, hb4⟩)
  have P := Blk.new w4 #[.int .i64 lv1, .slice AP n1 cp] 28
  have al := (Bel.refl w4).alloc (Nat.le_refl _) (.cells #[.int .i64 lv1, .slice AP n1 cp] 28)
  have HBW := Lib.hid (bthen hb4.out al)
  have HCP := Lib.hid (hC4.out.below al)
  have HKP := Lib.hid hk4.out
  obtain ⟨w5, hW⟩ : ∃ Y, w4.alloc (.cells #[.int .i64 lv1, .slice AP n1 cp] 28) = Y := ⟨_, rfl⟩
  rw [hW] at P HBW HCP al ⊢
  clear hW al
  obtain ⟨gp, hgp⟩ : ∃ x, w4.heap.size = x := ⟨_, rfl⟩
  rw [hgp] at P ⊢
  clear hgp hk4 hC4 hb4 z0 z1 y0 y1 g1' g2'
  have HP := Lib.hid P
  have HN := Lib.hid (Blk.bel HN1.out HBW.out)
  have HM := Lib.hid (Blk.bel HM1.out HBW.out)
  have B5 := Lib.hid (bthen HB.out HBW.out)
  clear P
  have HLV : Hid (∀ W, Bel w5 W → Calls Try.prog 10 #[] W fun e w' => e = .returned (.bool true) ∧ Bel W w') := Lib.hid (fun W _ => lives18 W)
  have C1 : Hid (∀ W, Bel w5 W → CE W A1 l1) := Lib.hid (fun W h => HX1.out.below (bthen B5.out h))
  have C2 : Hid (∀ W, Bel w5 W → CE W A2 l2) := Lib.hid (fun W h => HX2.out.below (bthen B5.out h))
  have CP : Hid (∀ W, Bel w5 W → CE W AP l1) := Lib.hid (fun W h => HCP.out.below h)
  have HG1 : Hid (∀ W, Bel w5 W → Calls Try.prog 12 #[.agg #[.int .i64 lv1, .slice A1 n1 c1]] W fun e w' => e = .returned (.bool (goodN lv1 l1)) ∧ Bel W w') := Lib.hid (fun W h => by have := ngood_calls lv1 A1 c1 l1 W (C1.out W h) HWF.out; rw [HL1.out] at this; exact this)
  have HG2 : Hid (∀ W, Bel w5 W → Calls Try.prog 13 #[.agg #[.int .i64 lv1, .slice AP n1 cp]] W fun e w' => e = .returned (.bool (goodN lv1 l1)) ∧ Bel W w') := Lib.hid (fun W h => by have := rgood_calls lv1 AP cp l1 W (CP.out W h) (by rw [HL1.out]; exact HKP.out); rw [HL1.out] at this; exact this)
  have HB1 : Hid (∀ W, Bel w5 W → Calls Try.prog 14 #[.agg #[.int .i64 lv1, .slice A1 n1 c1]] W fun e w' => ∃ v, e = .returned v ∧ Hid (RB W w' v (bytesN lv1 l1)) ∧ Hid (Bel W w')) := Lib.hid (fun W h => by have := nbytes_calls lv1 A1 c1 l1 W (C1.out W h) (by rw [HL1.out]; exact HC1.out) HWF.out; rw [HL1.out] at this; exact this)
  have HB2 : Hid (∀ W, Bel w5 W → Calls Try.prog 15 #[.agg #[.int .i64 lv1, .slice AP n1 cp]] W fun e w' => ∃ v, e = .returned v ∧ Hid (RB W w' v (bytesN lv1 l1)) ∧ Hid (Bel W w')) := Lib.hid (fun W h => by have := rbytes_calls lv1 AP cp l1 W (CP.out W h) (by rw [HL1.out]; exact HKP.out) HWF.out; rw [HL1.out] at this; exact this)
  have HO1 : Hid (∀ W, Bel w5 W → Calls Try.prog 16 #[.slice A1 n1 c1] W fun e w' => e = .returned (.agg #[.bool (bnd l1).no, .int .i64 (bnd l1).lx, .int .i64 (bnd l1).ly, .int .i64 (bnd l1).hx, .int .i64 (bnd l1).hy]) ∧ Bel W w') := Lib.hid (fun W h => by have := bound_calls W A1 c1 l1 (C1.out W h) (by rw [HL1.out]; exact HC1.out); rw [HL1.out] at this; exact this)
  have HO2 : Hid (∀ W, Bel w5 W → Calls Try.prog 17 #[.slice AP n1 cp] W fun e w' => e = .returned (.agg #[.bool (bnd l1).no, .int .i64 (bnd l1).lx, .int .i64 (bnd l1).ly, .int .i64 (bnd l1).hx, .int .i64 (bnd l1).hy]) ∧ Bel W w') := Lib.hid (fun W h => by have := rbound_calls W AP cp l1 (CP.out W h) (by rw [HL1.out]; exact HKP.out); rw [HL1.out] at this; exact this)
  have HF1 : Hid (∀ W, Bel w5 W → Calls Try.prog 18 #[.agg #[.int .i64 lv1, .slice A1 n1 c1], .int .i64 id] W fun e w' => e = .returned (.int .i64 (findN l1 id)) ∧ Bel W w') := Lib.hid (fun W h => by have := find_calls lv1 A1 c1 l1 id W (C1.out W h); rw [HL1.out] at this; exact this)
  have HF2 : Hid (∀ W, Bel w5 W → Calls Try.prog 19 #[.agg #[.int .i64 lv1, .slice AP n1 cp], .int .i64 id] W fun e w' => e = .returned (.int .i64 (findN l1 id)) ∧ Bel W w') := Lib.hid (fun W h => by have := rfind_calls lv1 AP cp l1 id W (CP.out W h); rw [HL1.out] at this; exact this)
  have HS1 : Hid (∀ W, Bel w5 W → Calls Try.prog 20 #[.agg #[.int .i64 lv1, .slice A1 n1 c1], .agg #[.int .i64 lv2, .slice A2 n2 c2]] W fun e w' => e = .returned (.bool (sameN lv1 lv2 l1 l2)) ∧ Bel W w') := Lib.hid (fun W h => by have := nsame_calls lv1 lv2 A1 A2 c1 c2 l1 l2 W (C1.out W h) (C2.out W h); rw [HL1.out, HL2.out] at this; exact this)
  have HS2 : Hid (∀ AQ cq W, Bel w5 W → CE W AQ l2 → Calls Try.prog 21 #[.agg #[.int .i64 lv1, .slice AP n1 cp], .agg #[.int .i64 lv2, .slice AQ n2 cq]] W fun e w' => e = .returned (.bool (sameN lv1 lv2 l1 l2)) ∧ Bel W w') := Lib.hid (fun AQ cq W h hq => by have := rsame_calls lv1 lv2 AP AQ cp cq l1 l2 W (CP.out W h) hq; rw [HL1.out, HL2.out] at this; exact this)
  have HPL : Hid (∀ W, Bel w5 W → Calls Try.prog 11 #[.agg #[.int .i64 lv2, .slice A2 n2 c2]] W fun e w' => ∃ A' c', e = .returned (.agg #[.int .i64 lv2, .slice A' n2 c']) ∧ Hid (n2 ≤ c') ∧ Hid (CE w' A' l2) ∧ Hid (Bel W w')) := Lib.hid (fun W h => by
    have := plain_calls lv2 A2 c2 l2 W (C2.out W h) (by rw [HL2.out]; have := HG12.out; omega)
    rw [HL2.out] at this
    exact this)
  obtain ⟨G, hG⟩ : ∃ x, goodN lv1 l1 = x := ⟨_, rfl⟩
  obtain ⟨T, hT⟩ : ∃ x, bytesN lv1 l1 = x := ⟨_, rfl⟩
  obtain ⟨bb, hbb⟩ : ∃ x, bnd l1 = x := ⟨_, rfl⟩
  obtain ⟨fi, hfi⟩ : ∃ x, findN l1 id = x := ⟨_, rfl⟩
  obtain ⟨sm, hsm⟩ : ∃ x, sameN lv1 lv2 l1 l2 = x := ⟨_, rfl⟩
  rw [hG] at HG1 HG2
  rw [hT] at HB1 HB2
  rw [hbb] at HO1 HO2
  rw [hfi] at HF1 HF2
  rw [hsm] at HS1 HS2
  clear hG hT hbb hfi hsm
  have HGG : Hid ((G == G) = true) := Lib.hid (by simp)
  have HFF : Hid ((fi == fi) = true) := Lib.hid (by simp)
  have HSS : Hid ((sm == sm) = true) := Lib.hid (by simp)
  have HEB : Hid (∀ W, (binOp .eql 38 (.agg #[.bool bb.no, .int .i64 bb.lx, .int .i64 bb.ly, .int .i64 bb.hx, .int .i64 bb.hy]) (.agg #[.bool bb.no, .int .i64 bb.lx, .int .i64 bb.ly, .int .i64 bb.hx, .int .i64 bb.hy])).run Try.prog W = .ok (.bool true) W) := Lib.hid (fun W => by have := eqB bb bb W; rw [MBox.same_refl] at this; exact this)
  refine Reg.region_mono (P := Try.prog) (Ext := Bel) (R := fun i v W => match i with
      | 0 => v = .agg #[.int .i64 lv1, .slice A1 n1 c1]
      | 1 => v = .bool G
      | 2 => v = .agg #[.int .i64 lv1, .slice AP n1 cp]
      | 3 => v = .bool G
      | 4 => v = .bool true
      | 5 => v = .bool true
      | 6 => v = .agg #[.int .i64 lv1, .slice A1 n1 c1]
      | 7 => RB w5 W v T
      | 8 => v = .string (strOfNums T)
      | 9 => v = .agg #[.int .i64 lv1, .slice AP n1 cp]
      | 10 => RB w5 W v T
      | 11 => v = .string (strOfNums T)
      | 12 => v = .bool true
      | 13 => v = .bool true
      | 14 => v = .bool true
      | 15 => v = .pointer (some ⟨gn, 1, none⟩)
      | 16 => v = .slice A1 n1 c1
      | 17 => v = .agg #[.bool bb.no, .int .i64 bb.lx, .int .i64 bb.ly, .int .i64 bb.hx, .int .i64 bb.hy]
      | 18 => v = .pointer (some ⟨gp, 1, none⟩)
      | 19 => v = .slice AP n1 cp
      | 20 => v = .agg #[.bool bb.no, .int .i64 bb.lx, .int .i64 bb.ly, .int .i64 bb.hx, .int .i64 bb.hy]
      | 21 => v = .bool true
      | 22 => v = .bool true
      | 23 => v = .bool true
      | 24 => v = .agg #[.int .i64 lv1, .slice A1 n1 c1]
      | 25 => v = .int .i64 id
      | 26 => v = .int .i64 fi
      | 27 => v = .agg #[.int .i64 lv1, .slice AP n1 cp]
      | 28 => v = .int .i64 id
      | 29 => v = .int .i64 fi
      | 30 => v = .bool true
      | 31 => v = .bool true
      | 32 => v = .bool true
      | 33 => v = .agg #[.int .i64 lv1, .slice A1 n1 c1]
      | 34 => v = .agg #[.int .i64 lv2, .slice A2 n2 c2]
      | 35 => v = .bool sm
      | 36 => v = .agg #[.int .i64 lv1, .slice AP n1 cp]
      | 37 => v = .agg #[.int .i64 lv2, .slice A2 n2 c2]
      | 38 => ∃ AQ cq, v = .agg #[.int .i64 lv2, .slice AQ n2 cq] ∧ CE W AQ l2
      | 39 => v = .bool sm
      | 40 => v = .bool true
      | 41 => v = .bool true
      | 42 => v = .bool true
      | 43 => v = .bool true
      | 44 => v = .bool true
      | 45 => v = .bool true
      | _ => True) (fun W => Below w5.heap.size w5 W) rfl (by kernel_rfl) (by kernel_rfl) (Bel.drew w5) (fun W W' h h' => bthen h h') Bel.refl (by intro j v W W' hx h; split at h <;> first | exact h | exact RB.below h hx | (obtain ⟨AQ, cq, h1, h2⟩ := h; exact ⟨AQ, cq, h1, h2.below hx⟩)) ?_ ?_
  · intro i oi hoi a W hW need old
    match i, hoi with
    | 0, hoi =>
      simp only [List.getElem?_toArray, List.getElem?_cons_succ, List.getElem?_cons_zero, Option.some.injEq] at hoi
      subst hoi
      refine Reg.ob_plain rfl ?_
      have e3 : a.eval (.tmp 3) = .pointer (some ⟨gn, 0, none⟩) := old 3 (by kernel_rfl)
      obtain ⟨z0, z1⟩ := Blk.cells2 (Blk.bel HN.out hW)
      refine Reg.wp_val (W' := W) (v := .agg #[.int .i64 lv1, .slice A1 n1 c1]) (by simp only [execOp, e3, Reg.eval_const, resolve, invoke, builtin, List.map_toArray, List.map_cons, List.map_nil, Option.map_some, Option.map_none]; (first | rfl | go_simp | (go_simp; rfl))) ⟨_, rfl, Bel.refl W, rfl⟩
    | 1, hoi =>
      simp only [List.getElem?_toArray, List.getElem?_cons_succ, List.getElem?_cons_zero, Option.some.injEq] at hoi
      subst hoi
      refine Reg.ob_plain rfl ?_
      have e21 : a.eval (.tmp 21) = .agg #[.int .i64 lv1, .slice A1 n1 c1] := need 0 _ 21 rfl rfl (by kernel_rfl)
      refine Reg.wp_call (f := 12) (args := #[.agg #[.int .i64 lv1, .slice A1 n1 c1]]) (by simp only [execOp, e21, Reg.eval_const, resolve, invoke, List.map_toArray, List.map_cons, List.map_nil]; go_simp) ?_
      refine (HG1.out W hW).mono ?_
      rintro e W' ⟨rfl, hb⟩; exact ⟨_, rfl, _, rfl, hb, rfl⟩
    | 2, hoi =>
      simp only [List.getElem?_toArray, List.getElem?_cons_succ, List.getElem?_cons_zero, Option.some.injEq] at hoi
      subst hoi
      refine Reg.ob_plain rfl ?_
      have e7 : a.eval (.tmp 7) = .pointer (some ⟨gp, 0, none⟩) := old 7 (by kernel_rfl)
      obtain ⟨z0, z1⟩ := Blk.cells2 (Blk.bel HP.out hW)
      refine Reg.wp_val (W' := W) (v := .agg #[.int .i64 lv1, .slice AP n1 cp]) (by simp only [execOp, e7, Reg.eval_const, resolve, invoke, builtin, List.map_toArray, List.map_cons, List.map_nil, Option.map_some, Option.map_none]; (first | rfl | go_simp | (go_simp; rfl))) ⟨_, rfl, Bel.refl W, rfl⟩
    | 3, hoi =>
      simp only [List.getElem?_toArray, List.getElem?_cons_succ, List.getElem?_cons_zero, Option.some.injEq] at hoi
      subst hoi
      refine Reg.ob_plain rfl ?_
      have e23 : a.eval (.tmp 23) = .agg #[.int .i64 lv1, .slice AP n1 cp] := need 2 _ 23 rfl rfl (by kernel_rfl)
      refine Reg.wp_call (f := 13) (args := #[.agg #[.int .i64 lv1, .slice AP n1 cp]]) (by simp only [execOp, e23, Reg.eval_const, resolve, invoke, List.map_toArray, List.map_cons, List.map_nil]; go_simp) ?_
      refine (HG2.out W hW).mono ?_
      rintro e W' ⟨rfl, hb⟩; exact ⟨_, rfl, _, rfl, hb, rfl⟩
    | 4, hoi =>
      simp only [List.getElem?_toArray, List.getElem?_cons_succ, List.getElem?_cons_zero, Option.some.injEq] at hoi
      subst hoi
      refine Reg.ob_plain rfl ?_
      have e22 : a.eval (.tmp 22) = .bool G := need 1 _ 22 rfl rfl (by kernel_rfl)
      have e24 : a.eval (.tmp 24) = .bool G := need 3 _ 24 rfl rfl (by kernel_rfl)
      have hgg := HGG.out
      refine Reg.wp_val (W' := W) (v := .bool true) (by simp only [execOp, e22, e24, Reg.eval_const, resolve, invoke, builtin, List.map_toArray, List.map_cons, List.map_nil, Option.map_some, Option.map_none]; (first | rfl | go_simp | (go_simp; rfl))) ⟨_, rfl, Bel.refl W, rfl⟩
    | 5, hoi =>
      simp only [List.getElem?_toArray, List.getElem?_cons_succ, List.getElem?_cons_zero, Option.some.injEq] at hoi
      subst hoi
      refine Reg.ob_plain rfl ?_
      have e25 : a.eval (.tmp 25) = .bool true := need 4 _ 25 rfl rfl (by kernel_rfl)
      refine Reg.wp_val (W' := W) (v := _) (by simp only [execOp, e25, Reg.eval_const]; rfl) ⟨_, rfl, Bel.refl W, rfl⟩
    | 6, hoi =>
      simp only [List.getElem?_toArray, List.getElem?_cons_succ, List.getElem?_cons_zero, Option.some.injEq] at hoi
      subst hoi
      have eg : a.eval (.tmp 26) = .bool true := need 5 _ 26 rfl rfl (by kernel_rfl)
      refine Reg.ob_yes rfl rfl rfl eg ?_
      have e3 : a.eval (.tmp 3) = .pointer (some ⟨gn, 0, none⟩) := old 3 (by kernel_rfl)
      obtain ⟨z0, z1⟩ := Blk.cells2 (Blk.bel HN.out hW)
      refine Reg.wp_val (W' := W) (v := .agg #[.int .i64 lv1, .slice A1 n1 c1]) (by simp only [execOp, e3, Reg.eval_const, resolve, invoke, builtin, List.map_toArray, List.map_cons, List.map_nil, Option.map_some, Option.map_none]; (first | rfl | go_simp | (go_simp; rfl))) ⟨_, rfl, Bel.refl W, rfl⟩
    | 7, hoi =>
      simp only [List.getElem?_toArray, List.getElem?_cons_succ, List.getElem?_cons_zero, Option.some.injEq] at hoi
      subst hoi
      have eg : a.eval (.tmp 26) = .bool true := need 5 _ 26 rfl rfl (by kernel_rfl)
      refine Reg.ob_yes rfl rfl rfl eg ?_
      have e27 : a.eval (.tmp 27) = .agg #[.int .i64 lv1, .slice A1 n1 c1] := need 6 _ 27 rfl rfl (by kernel_rfl)
      refine Reg.wp_call (f := 14) (args := #[.agg #[.int .i64 lv1, .slice A1 n1 c1]]) (by simp only [execOp, e27, Reg.eval_const, resolve, invoke, List.map_toArray, List.map_cons, List.map_nil]; go_simp) ?_
      refine (HB1.out W hW).mono ?_
      rintro e W' ⟨v, rfl, hr, hb⟩; exact ⟨v, rfl, v, rfl, hb.out, hr.out.lower hW.size⟩
    | 8, hoi =>
      simp only [List.getElem?_toArray, List.getElem?_cons_succ, List.getElem?_cons_zero, Option.some.injEq] at hoi
      subst hoi
      have eg : a.eval (.tmp 26) = .bool true := need 5 _ 26 rfl rfl (by kernel_rfl)
      refine Reg.ob_yes rfl rfl rfl eg ?_
      have r28 := need 7 _ 28 rfl rfl (by kernel_rfl)
      simp only at r28
      obtain ⟨x28, e28⟩ : ∃ x, a.eval (.tmp 28) = x := ⟨_, rfl⟩
      rw [← Reg.eval_tmp, e28] at r28
      have hs9 := r28.str
      refine Reg.wp_val (W' := W) (v := .string (strOfNums T)) (by simp only [execOp, e28, Reg.eval_const, resolve, invoke, builtin, List.map_toArray, List.map_cons, List.map_nil, Option.map_some, Option.map_none]; (first | rfl | go_simp | (go_simp; rfl))) ⟨_, rfl, Bel.refl W, rfl⟩
    | 9, hoi =>
      simp only [List.getElem?_toArray, List.getElem?_cons_succ, List.getElem?_cons_zero, Option.some.injEq] at hoi
      subst hoi
      have eg : a.eval (.tmp 26) = .bool true := need 5 _ 26 rfl rfl (by kernel_rfl)
      refine Reg.ob_yes rfl rfl rfl eg ?_
      have e7 : a.eval (.tmp 7) = .pointer (some ⟨gp, 0, none⟩) := old 7 (by kernel_rfl)
      obtain ⟨z0, z1⟩ := Blk.cells2 (Blk.bel HP.out hW)
      refine Reg.wp_val (W' := W) (v := .agg #[.int .i64 lv1, .slice AP n1 cp]) (by simp only [execOp, e7, Reg.eval_const, resolve, invoke, builtin, List.map_toArray, List.map_cons, List.map_nil, Option.map_some, Option.map_none]; (first | rfl | go_simp | (go_simp; rfl))) ⟨_, rfl, Bel.refl W, rfl⟩
    | 10, hoi =>
      simp only [List.getElem?_toArray, List.getElem?_cons_succ, List.getElem?_cons_zero, Option.some.injEq] at hoi
      subst hoi
      have eg : a.eval (.tmp 26) = .bool true := need 5 _ 26 rfl rfl (by kernel_rfl)
      refine Reg.ob_yes rfl rfl rfl eg ?_
      have e30 : a.eval (.tmp 30) = .agg #[.int .i64 lv1, .slice AP n1 cp] := need 9 _ 30 rfl rfl (by kernel_rfl)
      refine Reg.wp_call (f := 15) (args := #[.agg #[.int .i64 lv1, .slice AP n1 cp]]) (by simp only [execOp, e30, Reg.eval_const, resolve, invoke, List.map_toArray, List.map_cons, List.map_nil]; go_simp) ?_
      refine (HB2.out W hW).mono ?_
      rintro e W' ⟨v, rfl, hr, hb⟩; exact ⟨v, rfl, v, rfl, hb.out, hr.out.lower hW.size⟩
    | 11, hoi =>
      simp only [List.getElem?_toArray, List.getElem?_cons_succ, List.getElem?_cons_zero, Option.some.injEq] at hoi
      subst hoi
      have eg : a.eval (.tmp 26) = .bool true := need 5 _ 26 rfl rfl (by kernel_rfl)
      refine Reg.ob_yes rfl rfl rfl eg ?_
      have r31 := need 10 _ 31 rfl rfl (by kernel_rfl)
      simp only at r31
      obtain ⟨x31, e31⟩ : ∃ x, a.eval (.tmp 31) = x := ⟨_, rfl⟩
      rw [← Reg.eval_tmp, e31] at r31
      have hs9 := r31.str
      refine Reg.wp_val (W' := W) (v := .string (strOfNums T)) (by simp only [execOp, e31, Reg.eval_const, resolve, invoke, builtin, List.map_toArray, List.map_cons, List.map_nil, Option.map_some, Option.map_none]; (first | rfl | go_simp | (go_simp; rfl))) ⟨_, rfl, Bel.refl W, rfl⟩
    | 12, hoi =>
      simp only [List.getElem?_toArray, List.getElem?_cons_succ, List.getElem?_cons_zero, Option.some.injEq] at hoi
      subst hoi
      have eg : a.eval (.tmp 26) = .bool true := need 5 _ 26 rfl rfl (by kernel_rfl)
      refine Reg.ob_yes rfl rfl rfl eg ?_
      have e29 : a.eval (.tmp 29) = .string (strOfNums T) := need 8 _ 29 rfl rfl (by kernel_rfl)
      have e32 : a.eval (.tmp 32) = .string (strOfNums T) := need 11 _ 32 rfl rfl (by kernel_rfl)
      have hbb := beq_self_eq_true ((strOfNums T).toList)
      refine Reg.wp_val (W' := W) (v := .bool true) (by simp only [execOp, e29, e32, Reg.eval_const, resolve, invoke, builtin, List.map_toArray, List.map_cons, List.map_nil, Option.map_some, Option.map_none]; (first | rfl | go_simp | (go_simp; rfl))) ⟨_, rfl, Bel.refl W, rfl⟩
    | 13, hoi =>
      simp only [List.getElem?_toArray, List.getElem?_cons_succ, List.getElem?_cons_zero, Option.some.injEq] at hoi
      subst hoi
      refine Reg.ob_plain rfl ?_
      have e26 : a.eval (.tmp 26) = .bool true := need 5 _ 26 rfl rfl (by kernel_rfl)
      have e33 : a.eval (.tmp 33) = .bool true := need 12 _ 33 rfl rfl (by kernel_rfl)
      refine Reg.wp_val (W' := W) (v := .bool true) (by simp only [execOp, e26, e33, Reg.eval_const, resolve, invoke, builtin, List.map_toArray, List.map_cons, List.map_nil, Option.map_some, Option.map_none]; (first | rfl | go_simp | (go_simp; rfl))) ⟨_, rfl, Bel.refl W, rfl⟩
    | 14, hoi =>
      simp only [List.getElem?_toArray, List.getElem?_cons_succ, List.getElem?_cons_zero, Option.some.injEq] at hoi
      subst hoi
      refine Reg.ob_plain rfl ?_
      have e34 : a.eval (.tmp 34) = .bool true := need 13 _ 34 rfl rfl (by kernel_rfl)
      refine Reg.wp_val (W' := W) (v := _) (by simp only [execOp, e34, Reg.eval_const]; rfl) ⟨_, rfl, Bel.refl W, rfl⟩
    | 15, hoi =>
      simp only [List.getElem?_toArray, List.getElem?_cons_succ, List.getElem?_cons_zero, Option.some.injEq] at hoi
      subst hoi
      have eg : a.eval (.tmp 35) = .bool true := need 14 _ 35 rfl rfl (by kernel_rfl)
      refine Reg.ob_yes rfl rfl rfl eg ?_
      have e3 : a.eval (.tmp 3) = .pointer (some ⟨gn, 0, none⟩) := old 3 (by kernel_rfl)
      refine Reg.wp_val (W' := W) (v := .pointer (some ⟨gn, 1, none⟩)) (by simp only [execOp, e3, Reg.eval_const, resolve, invoke, builtin, List.map_toArray, List.map_cons, List.map_nil, Option.map_some, Option.map_none]; (first | rfl | go_simp | (go_simp; rfl))) ⟨_, rfl, Bel.refl W, rfl⟩
    | 16, hoi =>
      simp only [List.getElem?_toArray, List.getElem?_cons_succ, List.getElem?_cons_zero, Option.some.injEq] at hoi
      subst hoi
      have eg : a.eval (.tmp 35) = .bool true := need 14 _ 35 rfl rfl (by kernel_rfl)
      refine Reg.ob_yes rfl rfl rfl eg ?_
      have e36 : a.eval (.tmp 36) = .pointer (some ⟨gn, 1, none⟩) := need 15 _ 36 rfl rfl (by kernel_rfl)
      obtain ⟨z0, z1⟩ := Blk.cells2 (Blk.bel HN.out hW)
      refine Reg.wp_val (W' := W) (v := .slice A1 n1 c1) (by simp only [execOp, e36, Reg.eval_const, resolve, invoke, builtin, List.map_toArray, List.map_cons, List.map_nil, Option.map_some, Option.map_none]; (first | rfl | go_simp | (go_simp; rfl))) ⟨_, rfl, Bel.refl W, rfl⟩
    | 17, hoi =>
      simp only [List.getElem?_toArray, List.getElem?_cons_succ, List.getElem?_cons_zero, Option.some.injEq] at hoi
      subst hoi
      have eg : a.eval (.tmp 35) = .bool true := need 14 _ 35 rfl rfl (by kernel_rfl)
      refine Reg.ob_yes rfl rfl rfl eg ?_
      have e37 : a.eval (.tmp 37) = .slice A1 n1 c1 := need 16 _ 37 rfl rfl (by kernel_rfl)
      refine Reg.wp_call (f := 16) (args := #[.slice A1 n1 c1]) (by simp only [execOp, e37, Reg.eval_const, resolve, invoke, List.map_toArray, List.map_cons, List.map_nil]; go_simp) ?_
      refine (HO1.out W hW).mono ?_
      rintro e W' ⟨rfl, hb⟩; exact ⟨_, rfl, _, rfl, hb, rfl⟩
    | 18, hoi =>
      simp only [List.getElem?_toArray, List.getElem?_cons_succ, List.getElem?_cons_zero, Option.some.injEq] at hoi
      subst hoi
      have eg : a.eval (.tmp 35) = .bool true := need 14 _ 35 rfl rfl (by kernel_rfl)
      refine Reg.ob_yes rfl rfl rfl eg ?_
      have e7 : a.eval (.tmp 7) = .pointer (some ⟨gp, 0, none⟩) := old 7 (by kernel_rfl)
      refine Reg.wp_val (W' := W) (v := .pointer (some ⟨gp, 1, none⟩)) (by simp only [execOp, e7, Reg.eval_const, resolve, invoke, builtin, List.map_toArray, List.map_cons, List.map_nil, Option.map_some, Option.map_none]; (first | rfl | go_simp | (go_simp; rfl))) ⟨_, rfl, Bel.refl W, rfl⟩
    | 19, hoi =>
      simp only [List.getElem?_toArray, List.getElem?_cons_succ, List.getElem?_cons_zero, Option.some.injEq] at hoi
      subst hoi
      have eg : a.eval (.tmp 35) = .bool true := need 14 _ 35 rfl rfl (by kernel_rfl)
      refine Reg.ob_yes rfl rfl rfl eg ?_
      have e39 : a.eval (.tmp 39) = .pointer (some ⟨gp, 1, none⟩) := need 18 _ 39 rfl rfl (by kernel_rfl)
      obtain ⟨z0, z1⟩ := Blk.cells2 (Blk.bel HP.out hW)
      refine Reg.wp_val (W' := W) (v := .slice AP n1 cp) (by simp only [execOp, e39, Reg.eval_const, resolve, invoke, builtin, List.map_toArray, List.map_cons, List.map_nil, Option.map_some, Option.map_none]; (first | rfl | go_simp | (go_simp; rfl))) ⟨_, rfl, Bel.refl W, rfl⟩
    | 20, hoi =>
      simp only [List.getElem?_toArray, List.getElem?_cons_succ, List.getElem?_cons_zero, Option.some.injEq] at hoi
      subst hoi
      have eg : a.eval (.tmp 35) = .bool true := need 14 _ 35 rfl rfl (by kernel_rfl)
      refine Reg.ob_yes rfl rfl rfl eg ?_
      have e40 : a.eval (.tmp 40) = .slice AP n1 cp := need 19 _ 40 rfl rfl (by kernel_rfl)
      refine Reg.wp_call (f := 17) (args := #[.slice AP n1 cp]) (by simp only [execOp, e40, Reg.eval_const, resolve, invoke, List.map_toArray, List.map_cons, List.map_nil]; go_simp) ?_
      refine (HO2.out W hW).mono ?_
      rintro e W' ⟨rfl, hb⟩; exact ⟨_, rfl, _, rfl, hb, rfl⟩
    | 21, hoi =>
      simp only [List.getElem?_toArray, List.getElem?_cons_succ, List.getElem?_cons_zero, Option.some.injEq] at hoi
      subst hoi
      have eg : a.eval (.tmp 35) = .bool true := need 14 _ 35 rfl rfl (by kernel_rfl)
      refine Reg.ob_yes rfl rfl rfl eg ?_
      have e38 : a.eval (.tmp 38) = .agg #[.bool bb.no, .int .i64 bb.lx, .int .i64 bb.ly, .int .i64 bb.hx, .int .i64 bb.hy] := need 17 _ 38 rfl rfl (by kernel_rfl)
      have e41 : a.eval (.tmp 41) = .agg #[.bool bb.no, .int .i64 bb.lx, .int .i64 bb.ly, .int .i64 bb.hx, .int .i64 bb.hy] := need 20 _ 41 rfl rfl (by kernel_rfl)
      have hbb := HEB.out W
      refine Reg.wp_val (W' := W) (v := .bool true) (by simp only [execOp, e38, e41, Reg.eval_const, resolve, invoke, builtin, List.map_toArray, List.map_cons, List.map_nil, Option.map_some, Option.map_none]; (first | rfl | go_simp | (go_simp; rfl))) ⟨_, rfl, Bel.refl W, rfl⟩
    | 22, hoi =>
      simp only [List.getElem?_toArray, List.getElem?_cons_succ, List.getElem?_cons_zero, Option.some.injEq] at hoi
      subst hoi
      refine Reg.ob_plain rfl ?_
      have e35 : a.eval (.tmp 35) = .bool true := need 14 _ 35 rfl rfl (by kernel_rfl)
      have e42 : a.eval (.tmp 42) = .bool true := need 21 _ 42 rfl rfl (by kernel_rfl)
      refine Reg.wp_val (W' := W) (v := .bool true) (by simp only [execOp, e35, e42, Reg.eval_const, resolve, invoke, builtin, List.map_toArray, List.map_cons, List.map_nil, Option.map_some, Option.map_none]; (first | rfl | go_simp | (go_simp; rfl))) ⟨_, rfl, Bel.refl W, rfl⟩
    | 23, hoi =>
      simp only [List.getElem?_toArray, List.getElem?_cons_succ, List.getElem?_cons_zero, Option.some.injEq] at hoi
      subst hoi
      refine Reg.ob_plain rfl ?_
      have e43 : a.eval (.tmp 43) = .bool true := need 22 _ 43 rfl rfl (by kernel_rfl)
      refine Reg.wp_val (W' := W) (v := _) (by simp only [execOp, e43, Reg.eval_const]; rfl) ⟨_, rfl, Bel.refl W, rfl⟩
    | 24, hoi =>
      simp only [List.getElem?_toArray, List.getElem?_cons_succ, List.getElem?_cons_zero, Option.some.injEq] at hoi
      subst hoi
      have eg : a.eval (.tmp 44) = .bool true := need 23 _ 44 rfl rfl (by kernel_rfl)
      refine Reg.ob_yes rfl rfl rfl eg ?_
      have e3 : a.eval (.tmp 3) = .pointer (some ⟨gn, 0, none⟩) := old 3 (by kernel_rfl)
      obtain ⟨z0, z1⟩ := Blk.cells2 (Blk.bel HN.out hW)
      refine Reg.wp_val (W' := W) (v := .agg #[.int .i64 lv1, .slice A1 n1 c1]) (by simp only [execOp, e3, Reg.eval_const, resolve, invoke, builtin, List.map_toArray, List.map_cons, List.map_nil, Option.map_some, Option.map_none]; (first | rfl | go_simp | (go_simp; rfl))) ⟨_, rfl, Bel.refl W, rfl⟩
    | 25, hoi =>
      simp only [List.getElem?_toArray, List.getElem?_cons_succ, List.getElem?_cons_zero, Option.some.injEq] at hoi
      subst hoi
      have eg : a.eval (.tmp 44) = .bool true := need 23 _ 44 rfl rfl (by kernel_rfl)
      refine Reg.ob_yes rfl rfl rfl eg ?_
      have e2 : a.eval (.tmp 2) = .int .i64 id := old 2 (by kernel_rfl)
      refine Reg.wp_val (W' := W) (v := _) (by simp only [execOp, e2, Reg.eval_const]; rfl) ⟨_, rfl, Bel.refl W, rfl⟩
    | 26, hoi =>
      simp only [List.getElem?_toArray, List.getElem?_cons_succ, List.getElem?_cons_zero, Option.some.injEq] at hoi
      subst hoi
      have eg : a.eval (.tmp 44) = .bool true := need 23 _ 44 rfl rfl (by kernel_rfl)
      refine Reg.ob_yes rfl rfl rfl eg ?_
      have e45 : a.eval (.tmp 45) = .agg #[.int .i64 lv1, .slice A1 n1 c1] := need 24 _ 45 rfl rfl (by kernel_rfl)
      have e46 : a.eval (.tmp 46) = .int .i64 id := need 25 _ 46 rfl rfl (by kernel_rfl)
      refine Reg.wp_call (f := 18) (args := #[.agg #[.int .i64 lv1, .slice A1 n1 c1], .int .i64 id]) (by simp only [execOp, e45, e46, Reg.eval_const, resolve, invoke, List.map_toArray, List.map_cons, List.map_nil]; go_simp) ?_
      refine (HF1.out W hW).mono ?_
      rintro e W' ⟨rfl, hb⟩; exact ⟨_, rfl, _, rfl, hb, rfl⟩
    | 27, hoi =>
      simp only [List.getElem?_toArray, List.getElem?_cons_succ, List.getElem?_cons_zero, Option.some.injEq] at hoi
      subst hoi
      have eg : a.eval (.tmp 44) = .bool true := need 23 _ 44 rfl rfl (by kernel_rfl)
      refine Reg.ob_yes rfl rfl rfl eg ?_
      have e7 : a.eval (.tmp 7) = .pointer (some ⟨gp, 0, none⟩) := old 7 (by kernel_rfl)
      obtain ⟨z0, z1⟩ := Blk.cells2 (Blk.bel HP.out hW)
      refine Reg.wp_val (W' := W) (v := .agg #[.int .i64 lv1, .slice AP n1 cp]) (by simp only [execOp, e7, Reg.eval_const, resolve, invoke, builtin, List.map_toArray, List.map_cons, List.map_nil, Option.map_some, Option.map_none]; (first | rfl | go_simp | (go_simp; rfl))) ⟨_, rfl, Bel.refl W, rfl⟩
    | 28, hoi =>
      simp only [List.getElem?_toArray, List.getElem?_cons_succ, List.getElem?_cons_zero, Option.some.injEq] at hoi
      subst hoi
      have eg : a.eval (.tmp 44) = .bool true := need 23 _ 44 rfl rfl (by kernel_rfl)
      refine Reg.ob_yes rfl rfl rfl eg ?_
      have e2 : a.eval (.tmp 2) = .int .i64 id := old 2 (by kernel_rfl)
      refine Reg.wp_val (W' := W) (v := _) (by simp only [execOp, e2, Reg.eval_const]; rfl) ⟨_, rfl, Bel.refl W, rfl⟩
    | 29, hoi =>
      simp only [List.getElem?_toArray, List.getElem?_cons_succ, List.getElem?_cons_zero, Option.some.injEq] at hoi
      subst hoi
      have eg : a.eval (.tmp 44) = .bool true := need 23 _ 44 rfl rfl (by kernel_rfl)
      refine Reg.ob_yes rfl rfl rfl eg ?_
      have e48 : a.eval (.tmp 48) = .agg #[.int .i64 lv1, .slice AP n1 cp] := need 27 _ 48 rfl rfl (by kernel_rfl)
      have e49 : a.eval (.tmp 49) = .int .i64 id := need 28 _ 49 rfl rfl (by kernel_rfl)
      refine Reg.wp_call (f := 19) (args := #[.agg #[.int .i64 lv1, .slice AP n1 cp], .int .i64 id]) (by simp only [execOp, e48, e49, Reg.eval_const, resolve, invoke, List.map_toArray, List.map_cons, List.map_nil]; go_simp) ?_
      refine (HF2.out W hW).mono ?_
      rintro e W' ⟨rfl, hb⟩; exact ⟨_, rfl, _, rfl, hb, rfl⟩
    | 30, hoi =>
      simp only [List.getElem?_toArray, List.getElem?_cons_succ, List.getElem?_cons_zero, Option.some.injEq] at hoi
      subst hoi
      have eg : a.eval (.tmp 44) = .bool true := need 23 _ 44 rfl rfl (by kernel_rfl)
      refine Reg.ob_yes rfl rfl rfl eg ?_
      have e47 : a.eval (.tmp 47) = .int .i64 fi := need 26 _ 47 rfl rfl (by kernel_rfl)
      have e50 : a.eval (.tmp 50) = .int .i64 fi := need 29 _ 50 rfl rfl (by kernel_rfl)
      have hff := HFF.out
      refine Reg.wp_val (W' := W) (v := .bool true) (by simp only [execOp, e47, e50, Reg.eval_const, resolve, invoke, builtin, List.map_toArray, List.map_cons, List.map_nil, Option.map_some, Option.map_none]; (first | rfl | go_simp | (go_simp; rfl))) ⟨_, rfl, Bel.refl W, rfl⟩
    | 31, hoi =>
      simp only [List.getElem?_toArray, List.getElem?_cons_succ, List.getElem?_cons_zero, Option.some.injEq] at hoi
      subst hoi
      refine Reg.ob_plain rfl ?_
      have e44 : a.eval (.tmp 44) = .bool true := need 23 _ 44 rfl rfl (by kernel_rfl)
      have e51 : a.eval (.tmp 51) = .bool true := need 30 _ 51 rfl rfl (by kernel_rfl)
      refine Reg.wp_val (W' := W) (v := .bool true) (by simp only [execOp, e44, e51, Reg.eval_const, resolve, invoke, builtin, List.map_toArray, List.map_cons, List.map_nil, Option.map_some, Option.map_none]; (first | rfl | go_simp | (go_simp; rfl))) ⟨_, rfl, Bel.refl W, rfl⟩
    | 32, hoi =>
      simp only [List.getElem?_toArray, List.getElem?_cons_succ, List.getElem?_cons_zero, Option.some.injEq] at hoi
      subst hoi
      refine Reg.ob_plain rfl ?_
      have e52 : a.eval (.tmp 52) = .bool true := need 31 _ 52 rfl rfl (by kernel_rfl)
      refine Reg.wp_val (W' := W) (v := _) (by simp only [execOp, e52, Reg.eval_const]; rfl) ⟨_, rfl, Bel.refl W, rfl⟩
    | 33, hoi =>
      simp only [List.getElem?_toArray, List.getElem?_cons_succ, List.getElem?_cons_zero, Option.some.injEq] at hoi
      subst hoi
      have eg : a.eval (.tmp 53) = .bool true := need 32 _ 53 rfl rfl (by kernel_rfl)
      refine Reg.ob_yes rfl rfl rfl eg ?_
      have e3 : a.eval (.tmp 3) = .pointer (some ⟨gn, 0, none⟩) := old 3 (by kernel_rfl)
      obtain ⟨z0, z1⟩ := Blk.cells2 (Blk.bel HN.out hW)
      refine Reg.wp_val (W' := W) (v := .agg #[.int .i64 lv1, .slice A1 n1 c1]) (by simp only [execOp, e3, Reg.eval_const, resolve, invoke, builtin, List.map_toArray, List.map_cons, List.map_nil, Option.map_some, Option.map_none]; (first | rfl | go_simp | (go_simp; rfl))) ⟨_, rfl, Bel.refl W, rfl⟩
    | 34, hoi =>
      simp only [List.getElem?_toArray, List.getElem?_cons_succ, List.getElem?_cons_zero, Option.some.injEq] at hoi
      subst hoi
      have eg : a.eval (.tmp 53) = .bool true := need 32 _ 53 rfl rfl (by kernel_rfl)
      refine Reg.ob_yes rfl rfl rfl eg ?_
      have e4 : a.eval (.tmp 4) = .pointer (some ⟨gm, 0, none⟩) := old 4 (by kernel_rfl)
      obtain ⟨z0, z1⟩ := Blk.cells2 (Blk.bel HM.out hW)
      refine Reg.wp_val (W' := W) (v := .agg #[.int .i64 lv2, .slice A2 n2 c2]) (by simp only [execOp, e4, Reg.eval_const, resolve, invoke, builtin, List.map_toArray, List.map_cons, List.map_nil, Option.map_some, Option.map_none]; (first | rfl | go_simp | (go_simp; rfl))) ⟨_, rfl, Bel.refl W, rfl⟩
    | 35, hoi =>
      simp only [List.getElem?_toArray, List.getElem?_cons_succ, List.getElem?_cons_zero, Option.some.injEq] at hoi
      subst hoi
      have eg : a.eval (.tmp 53) = .bool true := need 32 _ 53 rfl rfl (by kernel_rfl)
      refine Reg.ob_yes rfl rfl rfl eg ?_
      have e54 : a.eval (.tmp 54) = .agg #[.int .i64 lv1, .slice A1 n1 c1] := need 33 _ 54 rfl rfl (by kernel_rfl)
      have e55 : a.eval (.tmp 55) = .agg #[.int .i64 lv2, .slice A2 n2 c2] := need 34 _ 55 rfl rfl (by kernel_rfl)
      refine Reg.wp_call (f := 20) (args := #[.agg #[.int .i64 lv1, .slice A1 n1 c1], .agg #[.int .i64 lv2, .slice A2 n2 c2]]) (by simp only [execOp, e54, e55, Reg.eval_const, resolve, invoke, List.map_toArray, List.map_cons, List.map_nil]; go_simp) ?_
      refine (HS1.out W hW).mono ?_
      rintro e W' ⟨rfl, hb⟩; exact ⟨_, rfl, _, rfl, hb, rfl⟩
    | 36, hoi =>
      simp only [List.getElem?_toArray, List.getElem?_cons_succ, List.getElem?_cons_zero, Option.some.injEq] at hoi
      subst hoi
      have eg : a.eval (.tmp 53) = .bool true := need 32 _ 53 rfl rfl (by kernel_rfl)
      refine Reg.ob_yes rfl rfl rfl eg ?_
      have e7 : a.eval (.tmp 7) = .pointer (some ⟨gp, 0, none⟩) := old 7 (by kernel_rfl)
      obtain ⟨z0, z1⟩ := Blk.cells2 (Blk.bel HP.out hW)
      refine Reg.wp_val (W' := W) (v := .agg #[.int .i64 lv1, .slice AP n1 cp]) (by simp only [execOp, e7, Reg.eval_const, resolve, invoke, builtin, List.map_toArray, List.map_cons, List.map_nil, Option.map_some, Option.map_none]; (first | rfl | go_simp | (go_simp; rfl))) ⟨_, rfl, Bel.refl W, rfl⟩
    | 37, hoi =>
      simp only [List.getElem?_toArray, List.getElem?_cons_succ, List.getElem?_cons_zero, Option.some.injEq] at hoi
      subst hoi
      have eg : a.eval (.tmp 53) = .bool true := need 32 _ 53 rfl rfl (by kernel_rfl)
      refine Reg.ob_yes rfl rfl rfl eg ?_
      have e4 : a.eval (.tmp 4) = .pointer (some ⟨gm, 0, none⟩) := old 4 (by kernel_rfl)
      obtain ⟨z0, z1⟩ := Blk.cells2 (Blk.bel HM.out hW)
      refine Reg.wp_val (W' := W) (v := .agg #[.int .i64 lv2, .slice A2 n2 c2]) (by simp only [execOp, e4, Reg.eval_const, resolve, invoke, builtin, List.map_toArray, List.map_cons, List.map_nil, Option.map_some, Option.map_none]; (first | rfl | go_simp | (go_simp; rfl))) ⟨_, rfl, Bel.refl W, rfl⟩
    | 38, hoi =>
      simp only [List.getElem?_toArray, List.getElem?_cons_succ, List.getElem?_cons_zero, Option.some.injEq] at hoi
      subst hoi
      have eg : a.eval (.tmp 53) = .bool true := need 32 _ 53 rfl rfl (by kernel_rfl)
      refine Reg.ob_yes rfl rfl rfl eg ?_
      have e58 : a.eval (.tmp 58) = .agg #[.int .i64 lv2, .slice A2 n2 c2] := need 37 _ 58 rfl rfl (by kernel_rfl)
      refine Reg.wp_call (f := 11) (args := #[.agg #[.int .i64 lv2, .slice A2 n2 c2]]) (by simp only [execOp, e58, Reg.eval_const, resolve, invoke, List.map_toArray, List.map_cons, List.map_nil]; go_simp) ?_
      refine (HPL.out W hW).mono ?_
      rintro e W' ⟨AQ, cq, rfl, _, hC, hb⟩; exact ⟨_, rfl, _, rfl, hb.out, AQ, cq, rfl, hC.out⟩
    | 39, hoi =>
      simp only [List.getElem?_toArray, List.getElem?_cons_succ, List.getElem?_cons_zero, Option.some.injEq] at hoi
      subst hoi
      have eg : a.eval (.tmp 53) = .bool true := need 32 _ 53 rfl rfl (by kernel_rfl)
      refine Reg.ob_yes rfl rfl rfl eg ?_
      have e57 : a.eval (.tmp 57) = .agg #[.int .i64 lv1, .slice AP n1 cp] := need 36 _ 57 rfl rfl (by kernel_rfl)
      have r59 := need 38 _ 59 rfl rfl (by kernel_rfl)
      simp only at r59
      obtain ⟨x59, e59⟩ : ∃ x, a.eval (.tmp 59) = x := ⟨_, rfl⟩
      rw [← Reg.eval_tmp, e59] at r59
      obtain ⟨AQ, cq, hx59, hC59⟩ := r59
      subst hx59
      refine Reg.wp_call (f := 21) (args := #[.agg #[.int .i64 lv1, .slice AP n1 cp], .agg #[.int .i64 lv2, .slice AQ n2 cq]]) (by simp only [execOp, e57, e59, Reg.eval_const, resolve, invoke, List.map_toArray, List.map_cons, List.map_nil]; go_simp) ?_
      refine (HS2.out AQ cq W hW hC59).mono ?_
      rintro e W' ⟨rfl, hb⟩; exact ⟨_, rfl, _, rfl, hb, rfl⟩
    | 40, hoi =>
      simp only [List.getElem?_toArray, List.getElem?_cons_succ, List.getElem?_cons_zero, Option.some.injEq] at hoi
      subst hoi
      have eg : a.eval (.tmp 53) = .bool true := need 32 _ 53 rfl rfl (by kernel_rfl)
      refine Reg.ob_yes rfl rfl rfl eg ?_
      have e56 : a.eval (.tmp 56) = .bool sm := need 35 _ 56 rfl rfl (by kernel_rfl)
      have e60 : a.eval (.tmp 60) = .bool sm := need 39 _ 60 rfl rfl (by kernel_rfl)
      have hss := HSS.out
      refine Reg.wp_val (W' := W) (v := .bool true) (by simp only [execOp, e56, e60, Reg.eval_const, resolve, invoke, builtin, List.map_toArray, List.map_cons, List.map_nil, Option.map_some, Option.map_none]; (first | rfl | go_simp | (go_simp; rfl))) ⟨_, rfl, Bel.refl W, rfl⟩
    | 41, hoi =>
      simp only [List.getElem?_toArray, List.getElem?_cons_succ, List.getElem?_cons_zero, Option.some.injEq] at hoi
      subst hoi
      refine Reg.ob_plain rfl ?_
      have e53 : a.eval (.tmp 53) = .bool true := need 32 _ 53 rfl rfl (by kernel_rfl)
      have e61 : a.eval (.tmp 61) = .bool true := need 40 _ 61 rfl rfl (by kernel_rfl)
      refine Reg.wp_val (W' := W) (v := .bool true) (by simp only [execOp, e53, e61, Reg.eval_const, resolve, invoke, builtin, List.map_toArray, List.map_cons, List.map_nil, Option.map_some, Option.map_none]; (first | rfl | go_simp | (go_simp; rfl))) ⟨_, rfl, Bel.refl W, rfl⟩
    | 42, hoi =>
      simp only [List.getElem?_toArray, List.getElem?_cons_succ, List.getElem?_cons_zero, Option.some.injEq] at hoi
      subst hoi
      refine Reg.ob_plain rfl ?_
      have e62 : a.eval (.tmp 62) = .bool true := need 41 _ 62 rfl rfl (by kernel_rfl)
      refine Reg.wp_val (W' := W) (v := _) (by simp only [execOp, e62, Reg.eval_const]; rfl) ⟨_, rfl, Bel.refl W, rfl⟩
    | 43, hoi =>
      simp only [List.getElem?_toArray, List.getElem?_cons_succ, List.getElem?_cons_zero, Option.some.injEq] at hoi
      subst hoi
      have eg : a.eval (.tmp 63) = .bool true := need 42 _ 63 rfl rfl (by kernel_rfl)
      refine Reg.ob_yes rfl rfl rfl eg ?_
      refine Reg.wp_call (f := 10) (args := #[]) (by simp only [execOp, Reg.eval_const, resolve, invoke, List.map_toArray, List.map_cons, List.map_nil]; go_simp) ?_
      refine (HLV.out W hW).mono ?_
      rintro e W' ⟨rfl, hb⟩; exact ⟨_, rfl, _, rfl, hb, rfl⟩
    | 44, hoi =>
      simp only [List.getElem?_toArray, List.getElem?_cons_succ, List.getElem?_cons_zero, Option.some.injEq] at hoi
      subst hoi
      refine Reg.ob_plain rfl ?_
      have e63 : a.eval (.tmp 63) = .bool true := need 42 _ 63 rfl rfl (by kernel_rfl)
      have e64 : a.eval (.tmp 64) = .bool true := need 43 _ 64 rfl rfl (by kernel_rfl)
      refine Reg.wp_val (W' := W) (v := .bool true) (by simp only [execOp, e63, e64, Reg.eval_const, resolve, invoke, builtin, List.map_toArray, List.map_cons, List.map_nil, Option.map_some, Option.map_none]; (first | rfl | go_simp | (go_simp; rfl))) ⟨_, rfl, Bel.refl W, rfl⟩
    | 45, hoi =>
      simp only [List.getElem?_toArray, List.getElem?_cons_succ, List.getElem?_cons_zero, Option.some.injEq] at hoi
      subst hoi
      refine Reg.ob_plain rfl ?_
      have e65 : a.eval (.tmp 65) = .bool true := need 44 _ 65 rfl rfl (by kernel_rfl)
      refine Reg.wp_val (W' := W) (v := _) (by simp only [execOp, e65, Reg.eval_const]; rfl) ⟨_, rfl, Bel.refl W, rfl⟩
    | n + 46, hoi => simp at hoi
  · intro a w9 hW hsize hdef got same did
    have ha := Reg.act_of [21, 22, 23, 24, 25, 26, 27, 28, 29, 30, 31, 32, 33, 34, 35, 36, 37, 38, 39, 40, 41, 42, 43, 44, 45, 46, 47, 48, 49, 50, 51, 52, 53, 54, 55, 56, 57, 58, 59, 60, 61, 62, 63, 64, 65, 6] hsize hdef same (by kernel_rfl)
    simp only [List.foldl_cons, List.foldl_nil] at ha
    generalize a.tmps.getD 21 undef = y21 at ha
    generalize a.tmps.getD 22 undef = y22 at ha
    generalize a.tmps.getD 23 undef = y23 at ha
    generalize a.tmps.getD 24 undef = y24 at ha
    generalize a.tmps.getD 25 undef = y25 at ha
    generalize a.tmps.getD 26 undef = y26 at ha
    generalize a.tmps.getD 27 undef = y27 at ha
    generalize a.tmps.getD 28 undef = y28 at ha
    generalize a.tmps.getD 29 undef = y29 at ha
    generalize a.tmps.getD 30 undef = y30 at ha
    generalize a.tmps.getD 31 undef = y31 at ha
    generalize a.tmps.getD 32 undef = y32 at ha
    generalize a.tmps.getD 33 undef = y33 at ha
    generalize a.tmps.getD 34 undef = y34 at ha
    generalize a.tmps.getD 35 undef = y35 at ha
    generalize a.tmps.getD 36 undef = y36 at ha
    generalize a.tmps.getD 37 undef = y37 at ha
    generalize a.tmps.getD 38 undef = y38 at ha
    generalize a.tmps.getD 39 undef = y39 at ha
    generalize a.tmps.getD 40 undef = y40 at ha
    generalize a.tmps.getD 41 undef = y41 at ha
    generalize a.tmps.getD 42 undef = y42 at ha
    generalize a.tmps.getD 43 undef = y43 at ha
    generalize a.tmps.getD 44 undef = y44 at ha
    generalize a.tmps.getD 45 undef = y45 at ha
    generalize a.tmps.getD 46 undef = y46 at ha
    generalize a.tmps.getD 47 undef = y47 at ha
    generalize a.tmps.getD 48 undef = y48 at ha
    generalize a.tmps.getD 49 undef = y49 at ha
    generalize a.tmps.getD 50 undef = y50 at ha
    generalize a.tmps.getD 51 undef = y51 at ha
    generalize a.tmps.getD 52 undef = y52 at ha
    generalize a.tmps.getD 53 undef = y53 at ha
    generalize a.tmps.getD 54 undef = y54 at ha
    generalize a.tmps.getD 55 undef = y55 at ha
    generalize a.tmps.getD 56 undef = y56 at ha
    generalize a.tmps.getD 57 undef = y57 at ha
    generalize a.tmps.getD 58 undef = y58 at ha
    generalize a.tmps.getD 59 undef = y59 at ha
    generalize a.tmps.getD 60 undef = y60 at ha
    generalize a.tmps.getD 61 undef = y61 at ha
    generalize a.tmps.getD 62 undef = y62 at ha
    generalize a.tmps.getD 63 undef = y63 at ha
    generalize a.tmps.getD 64 undef = y64 at ha
    generalize a.tmps.getD 65 undef = y65 at ha
    have k6 := got 45 _ 6 rfl rfl
    simp only at k6
    rw [k6] at ha
    clear k6
    clear got same hsize hdef did
    subst ha
    simp only [List.setIfInBounds_toArray, List.set_cons_zero, List.set_cons_succ]
    go_wp2
    go_ret
    exact ⟨by first | rfl | simp, bthen B5.out hW⟩
abbrev KNd : Kd (Int × List TEn) := Kd.pair (Kd.int .i64) (Kd.slice 57 KTn)
def okTn (y : TEn) : Prop := (Lit.int .i64 y.1).wf = true ∧ (True ∧ (((Lit.int .i64 y.2.2.1.1).wf = true ∧ (Lit.int .i64 y.2.2.1.2).wf = true) ∧ ((Lit.int .i64 y.2.2.2.1).wf = true ∧ (Lit.int .i64 y.2.2.2.2).wf = true)))
theorem node_arg {w : World} {cs : Array Value} {x : Int × List TEn} (hK : KNd.K w x cs.toList) : ∃ A c, cs = #[.int .i64 x.1, .slice A (x.2.map toEn).length c] ∧ (x.2.map toEn).length ≤ c ∧ CE w A (x.2.map toEn) := by
  obtain ⟨c0, c1, e, h0, A, c, h1, h2, h3⟩ := hK
  obtain rfl : c0 = [.int .i64 x.1] := h0
  subst h1
  obtain ⟨l⟩ := cs
  simp at e
  subst e
  refine ⟨A, c, by rw [List.length_map], by rw [List.length_map]; exact h2, CE.of h3⟩
theorem ids_wf {l : List TEn} (h : ∀ y ∈ l, okTn y) : ∀ x ∈ l.map toEn, (Lit.int .i64 x.id).wf = true := by
  intro x hx
  obtain ⟨y, hy, rfl⟩ := List.mem_map.1 hx
  exact (h y hy).1
theorem NodeForms_calls {w : World} (cs0 : Array Value) (x0 : Int × List TEn) (hx0 : KNd.K w x0 cs0.toList) (hq0 : (Lit.int .i64 x0.1).wf = true ∧ ((∀ y ∈ x0.2, okTn y) ∧ x0.2.length ≤ 9223372036854775807))
    (cs1 : Array Value) (x1 : Int × List TEn) (hx1 : KNd.K w x1 cs1.toList) (hq1 : (Lit.int .i64 x1.1).wf = true ∧ ((∀ y ∈ x1.2, okTn y) ∧ x1.2.length ≤ 9223372036854775807)) (id : Int) (hid : (Lit.int .i64 id).wf = true) :
    Calls Try.prog 3 #[.agg cs0, .agg cs1, .int .i64 id] w fun e w' => e = .returned (.bool true) ∧ Below w.heap.size w w' := by
  obtain ⟨A0, c0, rfl, h1, h2⟩ := node_arg hx0
  obtain ⟨A1, c1, rfl, h3, h4⟩ := node_arg hx1
  exact forms_calls x0.1 x1.1 id A0 A1 c0 c1 _ _ w h2 h1 (ids_wf hq0.2.1) h4 h3

end Go.Proofs.Ytljcingmjemohaa.K
