/- A node's bytes. -/
import Derived.Test.YtljcingmjemohaaKB
import Derived.Handy
import Derived.Test.YtljcingmjemohaaWNd5
import Derived.Test.YtljcingmjemohaaKX4
namespace Go.Proofs.Ytljcingmjemohaa.K
open Go Go.RowKit Go.Proofs.YtljcingmjemohaaW.PrintWords Go.Proofs.YtljcingmjemohaaW.PrintLast Go.Proofs.YtljcingmjemohaaW.PrintMore
set_option linter.unusedVariables false
set_option linter.unusedSimpArgs false
open Go.Proofs.Ytljcingmjemohaa.MBox (Bx noneB)
open Go.Proofs.Ytljcingmjemohaa.MChoose (En En0)
open Go.Proofs.Ytljcingmjemohaa.MNd
open Go.Proofs.Ytljcingmjemohaa.MBox (has good)
open Go.Proofs.Ytljcingmjemohaa.MOct (putL)
open Go.Proofs.Ytljcingmjemohaa
/-- An entry's bytes; a node's. -/
def entB (e : En) : List Int := put8 e.id ++ bytesV e.bx
def entsB (l : List En) : List Int := l.flatMap entB
def bytesN (lv : Int) (l : List En) : List Int := if goodN lv l = true then [lv, (l.length : Int)] ++ entsB l else []
theorem bytesV_len (b : MBox.Bx) : (bytesV b).length ≤ 32 := by
  unfold bytesV
  split
  · simp only [List.length_append, put8_len]; omega
  · simp
theorem entB_len (e : En) : (entB e).length ≤ 40 := by unfold entB; rw [List.length_append, put8_len]; have := bytesV_len e.bx; omega
theorem entsB_len : ∀ l : List En, (entsB l).length ≤ 40 * l.length
  | [] => by simp [entsB]
  | e :: l => by
    have h1 := entsB_len l
    have h2 := entB_len e
    unfold entsB at h1 ⊢
    simp only [List.flatMap_cons, List.length_append, List.length_cons]
    omega
theorem entsB_take {l : List En} {k : Nat} (h : k < l.length) : entsB (l.take (k + 1)) = entsB (l.take k) ++ entB (l[k]'h) := by
  unfold entsB
  rw [List.take_succ_eq_append_getElem h, List.flatMap_append]
  simp
theorem good_parts {lv : Int} {l : List En} (h : goodN lv l = true) : 0 ≤ lv ∧ lv ≤ 20 ∧ l.length ≤ 8 := by
  unfold goodN at h
  simp only [Bool.and_eq_true, decide_eq_true_eq] at h
  exact h.2
theorem wp_appB {ops : Array Oper} {o : Oper} {a : Act} {Q : Exit → Act → World → Prop} {K : Act → World → Prop} {w0 W : World} (s x : Operand) (hgd : o.guard = none) (ho : o.op = .call { callee := .builtin .append, args := #[s, x], argTypes := #[32, 32] })
    (v : Value) (xs ys : List Int) (A : Option Addr) (c : Nat) (hs : a.eval s = v) (hx : a.eval x = .slice A ys.length c)
    (HO : RB w0 W v xs) (HR : CB W A ys) (HB : Below w0.heap.size w0 W) (hl : xs.length + ys.length < 140737488355328)
    (h : ∀ v1 w1, RB w0 w1 v1 (xs ++ ys) → Below w0.heap.size w0 w1 → K (a.put o.dst v1) w1) : o.wp Try.prog a W K Q :=
  wp_of_list (ops := ops) hgd (appN s x hgd ho v xs ys A c hs hx HO HR HB hl (fun v1 w1 h1 h2 => ⟨rfl, h v1 w1 h1.out h2.out⟩))
set_option maxHeartbeats 4000000 in
set_option maxRecDepth 100000 in
theorem nbytes_calls (lv : Int) (A : Option Addr) (c : Nat) (l : List En) (w : World) (h : CE w A l) (hc : l.length ≤ c) (hw : ∀ x ∈ l, (Lit.int .i64 x.id).wf = true) :
    Calls Try.prog 14 #[.agg #[.int .i64 lv, .slice A l.length c]] w fun e w' => ∃ v, e = .returned v ∧ Hid (RB w w' v (bytesN lv l)) ∧ Hid (Bel w w') := by
  have HX := Lib.hid h
  have hm1 := h.len
  have HGD := Lib.hid (fun W h1 => ngood_calls lv A c l W h1 hw)
  have N := Blk.new w #[.int .i64 lv, .slice A l.length c] 24
  have HB : Hid (Bel w (w.alloc (.cells #[.int .i64 lv, .slice A l.length c] 24))) := Lib.hid ((Bel.refl w).alloc (Nat.le_refl _) _)
  have HWF := Lib.hid hw
  clear h hc hw
  go_enter Try.func14, Try.ntmps14
  go_upto_region 1 with (fail)
  obtain ⟨W, hW⟩ : ∃ Y, w.alloc (.cells #[.int .i64 lv, .slice A l.length c] 24) = Y := ⟨_, rfl⟩
  rw [hW] at N HB ⊢
  clear hW
  obtain ⟨gn, hgn⟩ : ∃ x, w.heap.size = x := ⟨_, rfl⟩
  rw [hgn] at N ⊢
  clear hgn
  have n0 : W.cell? ⟨gn, 0, none⟩ = some (.int .i64 lv) := N.cell 0 rfl
  have n1 : W.cell? ⟨gn, 1, none⟩ = some (.slice A l.length c) := N.cell 1 rfl
  have HN := Lib.hid N
  have HGW := Lib.hid (HGD.out W (HX.out.below HB.out))
  clear N
  obtain ⟨gd, hgd⟩ : ∃ x, goodN lv l = x := ⟨_, rfl⟩
  rw [hgd] at HGW
  have HGE := Lib.hid hgd
  clear hgd HGD
  cases gd
  · have HE : Hid (bytesN lv l = []) := Lib.hid (by unfold bytesN; rw [HGE.out]; rfl)
    go_wp2_with (go_at_call 12; refine (HGW.out).mono ?_; rintro e w2 ⟨rfl, hb2⟩; have HB2 := Lib.hid (bthen HB.out hb2); clear hb2)
    go_ret
    exact ⟨_, rfl, Lib.hid (by rw [HE.out]; exact RB.nil _ _), HB2⟩
  · obtain ⟨g1, g2, g3⟩ := good_parts HGE.out
    have hw1 : IntKind.u8.wrap lv = lv := by rw [IntKind.wrap_u8]; omega
    have hw2 : IntKind.u8.wrap (l.length : Int) = l.length := by rw [IntKind.wrap_u8]; omega
    have HL8 := Lib.hid g3
    clear g1 g2 g3
    go_upto_region 3 with (go_at_call 12; refine (HGW.out).mono ?_; rintro e w2 ⟨rfl, hb2⟩; have HB2 := Lib.hid (bthen HB.out hb2); have HN2 := Lib.hid (Blk.bel HN.out hb2); clear hb2 n0 n1)
    have n0 := HN2.out.cell 0 rfl
    have n1 := HN2.out.cell 1 rfl
    have HR0 : Hid (RB w (w2.alloc (.cells #[.int .u8 lv, .int .u8 l.length] 5)) (.slice (some ⟨w2.heap.size, 0, none⟩) 2 2) [lv, (l.length : Int)]) := Lib.hid (RB.lit [lv, (l.length : Int)] HB2.out.size (by simp [maxLen]))
    have HB3 := Lib.hid (HB2.out.alloc HB2.out.size (.cells #[.int .u8 lv, .int .u8 l.length] 5))
    have HN3 := Lib.hid (HN2.out.alloc (.cells #[.int .u8 lv, .int .u8 l.length] 5))
    go_upto_region 4 with (fail)
    obtain ⟨w3, hW⟩ : ∃ Y, w2.alloc (.cells #[.int .u8 lv, .int .u8 l.length] 5) = Y := ⟨_, rfl⟩
    rw [hW] at HR0 HB3 HN3 ⊢
    obtain ⟨g3, hg3⟩ : ∃ x, w2.heap.size = x := ⟨_, rfl⟩
    rw [hg3] at HR0 ⊢
    clear hW hg3 hw1 hw2 n0 n1
    have n1 := HN3.out.cell 1 rfl
    go_wp2
    clear n1
    go_loopw [3, 20] (fun bv i wr => ∃ (k : Nat), i = .int .i64 k ∧ k ≤ l.length ∧ Hid (Below w.heap.size w wr) ∧ Hid (RB w wr bv ([lv, (l.length : Int)] ++ entsB (l.take k)))) (fun _ i _ => l.length - (intOf i).toNat)
    case atStart => exact ⟨0, rfl, by omega, HB3, Lib.hid (by rw [List.take_zero]; exact HR0.out)⟩
    case round =>
      obtain ⟨k, rfl, hk, HBk, HRk⟩ := hrel
      by_cases hlt : k < l.length
      · obtain ⟨b, off, e8, _, x0, x1, x2, x3, x4, x5⟩ := en_at (HX.out.below HBk.out) k hlt
        subst e8
        have HES : Hid (entsB (l.take (k + 1)) = entsB (l.take k) ++ entB (l[k]'hlt)) := Lib.hid (entsB_take hlt)
        obtain ⟨x, hx⟩ : ∃ x, l[k]'hlt = x := ⟨_, rfl⟩
        rw [hx] at x0 x1 x2 x3 x4 x5 HES
        have HKL := Lib.hid hlt
        obtain ⟨L, hL⟩ : ∃ L, [lv, (l.length : Int)] ++ entsB (l.take k) = L := ⟨_, rfl⟩
        have HLE := Lib.hid hL
        have HLN : Hid (L.length ≤ 322) := Lib.hid (by rw [← hL, List.length_append]; have := entsB_len (l.take k); rw [List.length_take] at this; have := HL8.out; simp; omega)
        rw [hL] at HRk
        obtain ⟨Ar, cr, hv, hcr, hCr⟩ := HRk.out.reads
        obtain ⟨nr, hnr⟩ : ∃ n, L.length = n := ⟨_, rfl⟩
        rw [hnr] at hv
        subst hv
        have HNR := Lib.hid hnr
        have HCR := Lib.hid hCr
        have HCP := Lib.hid hcr
        have P := Blk.new wr #[.int .i64 x.id, .bool x.bx.no, .int .i64 x.bx.lx, .int .i64 x.bx.ly, .int .i64 x.bx.hx, .int .i64 x.bx.hy] 57
        have HBp := Lib.hid (HBk.out.alloc HBk.out.size (.cells #[.int .i64 x.id, .bool x.bx.no, .int .i64 x.bx.lx, .int .i64 x.bx.ly, .int .i64 x.bx.hx, .int .i64 x.bx.hy] 57))
        have HCp := Lib.hid (hCr.alloc (.cells #[.int .i64 x.id, .bool x.bx.no, .int .i64 x.bx.lx, .int .i64 x.bx.ly, .int .i64 x.bx.hx, .int .i64 x.bx.hy] 57))
        clear hx hL hnr hCr hcr
        go_upto_region 7 with (fail)
        obtain ⟨w5, hW⟩ : ∃ Y, wr.alloc (.cells #[.int .i64 x.id, .bool x.bx.no, .int .i64 x.bx.lx, .int .i64 x.bx.ly, .int .i64 x.bx.hx, .int .i64 x.bx.hy] 57) = Y := ⟨_, rfl⟩
        rw [hW] at P HBp HCp ⊢
        obtain ⟨gp, hg⟩ : ∃ g, wr.heap.size = g := ⟨_, rfl⟩
        rw [hg] at P ⊢
        clear hW hg x0 x1 x2 x3 x4 x5
        have HP := Lib.hid P
        clear P HBk HRk HCR
        have HPU : Hid (∀ W, Bel w5 W → Calls Try.prog 44 #[.slice Ar nr cr, .int .u64 (IntKind.u64.wrap x.id), .int .i64 8, .bool false] W fun e w' => ∃ v, e = .returned v ∧ RB W w' v (L ++ put8 x.id) ∧ Bel W w') := Lib.hid (fun W hh => by
          have := put8_calls Ar cr L x.id W (HCp.out.below hh) HCP.out (by have := HLN.out; omega)
          rw [HNR.out] at this
          refine this.mono ?_
          rintro e w' ⟨A', c', l', rfl, ho, hb⟩
          obtain ⟨h1, _, _, h4⟩ := ho
          exact ⟨_, rfl, by rw [← h1]; exact h4, hb⟩)
        have HBV := Lib.hid (fun W => boxBytes_calls x.bx W)
        have HLV : Hid ((L ++ put8 x.id).length + (bytesV x.bx).length < 140737488355328) := Lib.hid (by rw [List.length_append, put8_len]; have := HLN.out; have := bytesV_len x.bx; omega)
        refine Reg.region_gen (P := Try.prog) (Ext := fun i W W' => i ≠ 8 → Bel W W') (R := fun i v W => match i with
            | 0 => v = .slice Ar nr cr
            | 1 => v = .pointer (some ⟨gp, 0, none⟩)
            | 2 => v = .int .i64 x.id
            | 3 => v = .int .u64 (IntKind.u64.wrap x.id)
            | 4 => RB w5 W v (L ++ put8 x.id)
            | 5 => v = .pointer (some ⟨gp, 1, none⟩)
            | 6 => v = .agg #[.bool x.bx.no, .int .i64 x.bx.lx, .int .i64 x.bx.ly, .int .i64 x.bx.hx, .int .i64 x.bx.hy]
            | 7 => RB w5 W v (bytesV x.bx)
            | 8 => RB w5 W v (L ++ put8 x.id ++ bytesV x.bx)
            | 9 => RB w5 W v (L ++ put8 x.id ++ bytesV x.bx)
            | _ => True) [(8, 4), (8, 7)] (fun m W => Below w5.heap.size w5 W) rfl (by kernel_rfl) (by kernel_rfl) (Bel.drew w5) (fun i W _ => Bel.refl W) (by intro i j v W W' hij hk hr hx h; by_cases e : i = 8; (subst e; split at h <;> first | exact h | exact absurd rfl hij | exact absurd hk (by decide) | exact (Bool.false_ne_true (hr.symm.trans (by kernel_rfl))).elim); (have hb := hx e; split at h <;> first | exact h | exact RB.below h hb)) ?_ ?_
        · intro i oi hoi a W m hW hmi hpre need old
          match i, hoi with
          | 0, hoi =>
            simp only [List.getElem?_toArray, List.getElem?_cons_succ, List.getElem?_cons_zero, Option.some.injEq] at hoi
            subst hoi
            refine Reg.ob2_plain rfl ?_
            have e3 : a.eval (.tmp 3) = .slice Ar nr cr := old 3 (by kernel_rfl)
            refine Reg.wp_val (W' := W) (v := _) (by simp only [execOp, e3, Reg.eval_const]; rfl) ⟨_, rfl, (fun _ => Bel.refl W), rfl, hW⟩
          | 1, hoi =>
            simp only [List.getElem?_toArray, List.getElem?_cons_succ, List.getElem?_cons_zero, Option.some.injEq] at hoi
            subst hoi
            refine Reg.ob2_plain rfl ?_
            have e5 : a.eval (.tmp 5) = .pointer (some ⟨gp, 0, none⟩) := old 5 (by kernel_rfl)
            refine Reg.wp_val (W' := W) (v := .pointer (some ⟨gp, 0, none⟩)) (by simp only [execOp, e5, Reg.eval_const, resolve, invoke, builtin, List.map_toArray, List.map_cons, List.map_nil, Option.map_some, Option.map_none]; (first | rfl | go_simp | (go_simp; rfl))) ⟨_, rfl, (fun _ => Bel.refl W), rfl, hW⟩
          | 2, hoi =>
            simp only [List.getElem?_toArray, List.getElem?_cons_succ, List.getElem?_cons_zero, Option.some.injEq] at hoi
            subst hoi
            refine Reg.ob2_plain rfl ?_
            have e25 : a.eval (.tmp 25) = .pointer (some ⟨gp, 0, none⟩) := need 1 _ 25 rfl rfl (by kernel_rfl) (by kernel_rfl)
            obtain ⟨p0, p1, p2, p3, p4, p5⟩ := Blk.cells6 (Blk.bel HP.out hW)
            refine Reg.wp_val (W' := W) (v := .int .i64 x.id) (by simp only [execOp, e25, Reg.eval_const, resolve, invoke, builtin, List.map_toArray, List.map_cons, List.map_nil, Option.map_some, Option.map_none]; (first | rfl | go_simp | (go_simp; rfl))) ⟨_, rfl, (fun _ => Bel.refl W), rfl, hW⟩
          | 3, hoi =>
            simp only [List.getElem?_toArray, List.getElem?_cons_succ, List.getElem?_cons_zero, Option.some.injEq] at hoi
            subst hoi
            refine Reg.ob2_plain rfl ?_
            have e26 : a.eval (.tmp 26) = .int .i64 x.id := need 2 _ 26 rfl rfl (by kernel_rfl) (by kernel_rfl)
            refine Reg.wp_val (W' := W) (v := .int .u64 (IntKind.u64.wrap x.id)) (by simp only [execOp, e26, Reg.eval_const, resolve, invoke, builtin, List.map_toArray, List.map_cons, List.map_nil, Option.map_some, Option.map_none]; (first | rfl | go_simp | (go_simp; rfl))) ⟨_, rfl, (fun _ => Bel.refl W), rfl, hW⟩
          | 4, hoi =>
            simp only [List.getElem?_toArray, List.getElem?_cons_succ, List.getElem?_cons_zero, Option.some.injEq] at hoi
            subst hoi
            refine Reg.ob2_plain rfl ?_
            have e24 : a.eval (.tmp 24) = .slice Ar nr cr := need 0 _ 24 rfl rfl (by kernel_rfl) (by kernel_rfl)
            have e27 : a.eval (.tmp 27) = .int .u64 (IntKind.u64.wrap x.id) := need 3 _ 27 rfl rfl (by kernel_rfl) (by kernel_rfl)
            refine Reg.wp_call (f := 44) (args := #[.slice Ar nr cr, .int .u64 (IntKind.u64.wrap x.id), .int .i64 8, .bool false]) (by simp only [execOp, e24, e27, Reg.eval_const, resolve, invoke, List.map_toArray, List.map_cons, List.map_nil]; go_simp) ?_
            refine (HPU.out W hW).mono ?_
            rintro e W' ⟨v, rfl, hr, hb⟩; exact ⟨v, rfl, v, rfl, fun _ => hb, hr.lower hW.size, bthen hW hb⟩
          | 5, hoi =>
            simp only [List.getElem?_toArray, List.getElem?_cons_succ, List.getElem?_cons_zero, Option.some.injEq] at hoi
            subst hoi
            refine Reg.ob2_plain rfl ?_
            have e5 : a.eval (.tmp 5) = .pointer (some ⟨gp, 0, none⟩) := old 5 (by kernel_rfl)
            refine Reg.wp_val (W' := W) (v := .pointer (some ⟨gp, 1, none⟩)) (by simp only [execOp, e5, Reg.eval_const, resolve, invoke, builtin, List.map_toArray, List.map_cons, List.map_nil, Option.map_some, Option.map_none]; (first | rfl | go_simp | (go_simp; rfl))) ⟨_, rfl, (fun _ => Bel.refl W), rfl, hW⟩
          | 6, hoi =>
            simp only [List.getElem?_toArray, List.getElem?_cons_succ, List.getElem?_cons_zero, Option.some.injEq] at hoi
            subst hoi
            refine Reg.ob2_plain rfl ?_
            have e29 : a.eval (.tmp 29) = .pointer (some ⟨gp, 1, none⟩) := need 5 _ 29 rfl rfl (by kernel_rfl) (by kernel_rfl)
            obtain ⟨p0, p1, p2, p3, p4, p5⟩ := Blk.cells6 (Blk.bel HP.out hW)
            refine Reg.wp_val (W' := W) (v := .agg #[.bool x.bx.no, .int .i64 x.bx.lx, .int .i64 x.bx.ly, .int .i64 x.bx.hx, .int .i64 x.bx.hy]) (by simp only [execOp, e29, Reg.eval_const, resolve, invoke, builtin, List.map_toArray, List.map_cons, List.map_nil, Option.map_some, Option.map_none]; (first | rfl | go_simp | (go_simp; rfl))) ⟨_, rfl, (fun _ => Bel.refl W), rfl, hW⟩
          | 7, hoi =>
            simp only [List.getElem?_toArray, List.getElem?_cons_succ, List.getElem?_cons_zero, Option.some.injEq] at hoi
            subst hoi
            refine Reg.ob2_plain rfl ?_
            have e30 : a.eval (.tmp 30) = .agg #[.bool x.bx.no, .int .i64 x.bx.lx, .int .i64 x.bx.ly, .int .i64 x.bx.hx, .int .i64 x.bx.hy] := need 6 _ 30 rfl rfl (by kernel_rfl) (by kernel_rfl)
            refine Reg.wp_call (f := 45) (args := #[.agg #[.bool x.bx.no, .int .i64 x.bx.lx, .int .i64 x.bx.ly, .int .i64 x.bx.hx, .int .i64 x.bx.hy]]) (by simp only [execOp, e30, Reg.eval_const, resolve, invoke, List.map_toArray, List.map_cons, List.map_nil]; go_simp) ?_
            refine (HBV.out W).mono ?_
            rintro e W' ⟨v, rfl, hr, hb⟩; exact ⟨v, rfl, v, rfl, fun _ => hb, hr.lower hW.size, bthen hW hb⟩
          | 8, hoi =>
            simp only [List.getElem?_toArray, List.getElem?_cons_succ, List.getElem?_cons_zero, Option.some.injEq] at hoi
            subst hoi
            refine Reg.ob2_plain rfl ?_
            have r28 := need 4 _ 28 rfl rfl (by kernel_rfl) (by kernel_rfl)
            simp only at r28
            obtain ⟨x28, e28⟩ : ∃ x, a.eval (.tmp 28) = x := ⟨_, rfl⟩
            rw [← Reg.eval_tmp, e28] at r28
            have r31 := need 7 _ 31 rfl rfl (by kernel_rfl) (by kernel_rfl)
            simp only at r31
            obtain ⟨x31, e31⟩ : ∃ x, a.eval (.tmp 31) = x := ⟨_, rfl⟩
            rw [← Reg.eval_tmp, e31] at r31
            obtain ⟨A9, c9, hx31, hc9, hC9⟩ := r31.reads
            refine wp_appB (ops := #[]) (w0 := w5) _ _ rfl rfl x28 (L ++ put8 x.id) (bytesV x.bx) A9 c9 e28 (e31.trans hx31) r28 hC9 hW HLV.out ?_
            intro v1 w1 hr1 hb1
            exact ⟨v1, rfl, fun h => absurd rfl h, hr1, hb1⟩
          | 9, hoi =>
            simp only [List.getElem?_toArray, List.getElem?_cons_succ, List.getElem?_cons_zero, Option.some.injEq] at hoi
            subst hoi
            refine Reg.ob2_plain rfl ?_
            have r32 := need 8 _ 32 rfl rfl (by kernel_rfl) (by kernel_rfl)
            simp only at r32
            obtain ⟨x32, e32⟩ : ∃ x, a.eval (.tmp 32) = x := ⟨_, rfl⟩
            rw [← Reg.eval_tmp, e32] at r32
            refine Reg.wp_val (W' := W) (v := _) (by simp only [execOp, e32, Reg.eval_const]; rfl) ⟨_, rfl, (fun _ => Bel.refl W), r32, hW⟩
          | n + 10, hoi => simp at hoi
        · intro a w9 m hW hall hsize hdef got same did
          have ha := Reg.act_of [24, 25, 26, 27, 28, 29, 30, 31, 32, 3] hsize hdef same (by kernel_rfl)
          simp only [List.foldl_cons, List.foldl_nil] at ha
          generalize a.tmps.getD 24 undef = y24 at ha
          generalize a.tmps.getD 25 undef = y25 at ha
          generalize a.tmps.getD 26 undef = y26 at ha
          generalize a.tmps.getD 27 undef = y27 at ha
          generalize a.tmps.getD 28 undef = y28 at ha
          generalize a.tmps.getD 29 undef = y29 at ha
          generalize a.tmps.getD 30 undef = y30 at ha
          generalize a.tmps.getD 31 undef = y31 at ha
          generalize a.tmps.getD 32 undef = y32 at ha
          have k3 := got 9 _ 3 rfl rfl (by kernel_rfl)
          simp only at k3
          generalize a.tmps.getD 3 undef = y3 at ha k3
          clear got same hsize hdef did
          subst ha
          simp only [List.setIfInBounds_toArray, List.set_cons_zero, List.set_cons_succ]
          go_wp2
          go_roundw
          case rel => exact ⟨k + 1, by go_num, by have := HKL.out; omega, Lib.hid (bthen HBp.out hW), Lib.hid (by rw [HES.out, ← List.append_assoc, HLE.out]; unfold entB; rw [← List.append_assoc]; exact k3.lower HBp.out.size)⟩
          case measure => (have := HKL.out; simp [intOf] <;> omega)
      · have : k = l.length := by omega
        subst this
        clear hlt hk
        go_wp2
        go_ret
        exact ⟨_, rfl, Lib.hid (by unfold bytesN; rw [if_pos HGE.out]; have := HRk.out; rw [List.take_length] at this; exact this), HBk⟩
set_option maxHeartbeats 4000000 in
set_option maxRecDepth 100000 in
theorem rbytes_calls (lv : Int) (A : Option Addr) (c : Nat) (l : List En) (w : World) (h : CE w A l) (hc : l.length ≤ c) (hw : ∀ x ∈ l, (Lit.int .i64 x.id).wf = true) :
    Calls Try.prog 15 #[.agg #[.int .i64 lv, .slice A l.length c]] w fun e w' => ∃ v, e = .returned v ∧ Hid (RB w w' v (bytesN lv l)) ∧ Hid (Bel w w') := by
  have HX := Lib.hid h
  have hm1 := h.len
  have HGD := Lib.hid (fun W h1 => rgood_calls lv A c l W h1 hc)
  have N := Blk.new w #[.int .i64 lv, .slice A l.length c] 28
  have HB : Hid (Bel w (w.alloc (.cells #[.int .i64 lv, .slice A l.length c] 28))) := Lib.hid ((Bel.refl w).alloc (Nat.le_refl _) _)
  have HWF := Lib.hid hw
  clear h hc hw
  go_enter Try.func15, Try.ntmps15
  go_upto_region 1 with (fail)
  obtain ⟨W, hW⟩ : ∃ Y, w.alloc (.cells #[.int .i64 lv, .slice A l.length c] 28) = Y := ⟨_, rfl⟩
  rw [hW] at N HB ⊢
  clear hW
  obtain ⟨gn, hgn⟩ : ∃ x, w.heap.size = x := ⟨_, rfl⟩
  rw [hgn] at N ⊢
  clear hgn
  have n0 : W.cell? ⟨gn, 0, none⟩ = some (.int .i64 lv) := N.cell 0 rfl
  have n1 : W.cell? ⟨gn, 1, none⟩ = some (.slice A l.length c) := N.cell 1 rfl
  have HN := Lib.hid N
  have HGW := Lib.hid (HGD.out W (HX.out.below HB.out))
  clear N
  obtain ⟨gd, hgd⟩ : ∃ x, goodN lv l = x := ⟨_, rfl⟩
  rw [hgd] at HGW
  have HGE := Lib.hid hgd
  clear hgd HGD
  cases gd
  · have HE : Hid (bytesN lv l = []) := Lib.hid (by unfold bytesN; rw [HGE.out]; rfl)
    go_wp2_with (go_at_call 13; refine (HGW.out).mono ?_; rintro e w2 ⟨rfl, hb2⟩; have HB2 := Lib.hid (bthen HB.out hb2); clear hb2)
    go_ret
    exact ⟨_, rfl, Lib.hid (by rw [HE.out]; exact RB.nil _ _), HB2⟩
  · obtain ⟨g1, g2, g3⟩ := good_parts HGE.out
    have hw1 : IntKind.u8.wrap lv = lv := by rw [IntKind.wrap_u8]; omega
    have hw2 : IntKind.u8.wrap (l.length : Int) = l.length := by rw [IntKind.wrap_u8]; omega
    have HL8 := Lib.hid g3
    clear g1 g2 g3
    go_upto_region 3 with (go_at_call 13; refine (HGW.out).mono ?_; rintro e w2 ⟨rfl, hb2⟩; have HB2 := Lib.hid (bthen HB.out hb2); have HN2 := Lib.hid (Blk.bel HN.out hb2); clear hb2 n0 n1)
    have n0 := HN2.out.cell 0 rfl
    have n1 := HN2.out.cell 1 rfl
    have HR0 : Hid (RB w (w2.alloc (.cells #[.int .u8 lv, .int .u8 l.length] 5)) (.slice (some ⟨w2.heap.size, 0, none⟩) 2 2) [lv, (l.length : Int)]) := Lib.hid (RB.lit [lv, (l.length : Int)] HB2.out.size (by simp [maxLen]))
    have HB3 := Lib.hid (HB2.out.alloc HB2.out.size (.cells #[.int .u8 lv, .int .u8 l.length] 5))
    have HN3 := Lib.hid (HN2.out.alloc (.cells #[.int .u8 lv, .int .u8 l.length] 5))
    go_upto_region 4 with (fail)
    obtain ⟨w3, hW⟩ : ∃ Y, w2.alloc (.cells #[.int .u8 lv, .int .u8 l.length] 5) = Y := ⟨_, rfl⟩
    rw [hW] at HR0 HB3 HN3 ⊢
    obtain ⟨g3, hg3⟩ : ∃ x, w2.heap.size = x := ⟨_, rfl⟩
    rw [hg3] at HR0 ⊢
    clear hW hg3 hw1 hw2 n0 n1
    have n1 := HN3.out.cell 1 rfl
    go_wp2
    clear n1
    go_loopw [3, 20] (fun bv i wr => ∃ (k : Nat), i = .int .i64 k ∧ k ≤ l.length ∧ Hid (Below w.heap.size w wr) ∧ Hid (RB w wr bv ([lv, (l.length : Int)] ++ entsB (l.take k)))) (fun _ i _ => l.length - (intOf i).toNat)
    case atStart => exact ⟨0, rfl, by omega, HB3, Lib.hid (by rw [List.take_zero]; exact HR0.out)⟩
    case round =>
      obtain ⟨k, rfl, hk, HBk, HRk⟩ := hrel
      by_cases hlt : k < l.length
      · obtain ⟨b, off, e8, _, x0, x1, x2, x3, x4, x5⟩ := en_at (HX.out.below HBk.out) k hlt
        subst e8
        have HES : Hid (entsB (l.take (k + 1)) = entsB (l.take k) ++ entB (l[k]'hlt)) := Lib.hid (entsB_take hlt)
        obtain ⟨x, hx⟩ : ∃ x, l[k]'hlt = x := ⟨_, rfl⟩
        rw [hx] at x0 x1 x2 x3 x4 x5 HES
        have HKL := Lib.hid hlt
        obtain ⟨L, hL⟩ : ∃ L, [lv, (l.length : Int)] ++ entsB (l.take k) = L := ⟨_, rfl⟩
        have HLE := Lib.hid hL
        have HLN : Hid (L.length ≤ 322) := Lib.hid (by rw [← hL, List.length_append]; have := entsB_len (l.take k); rw [List.length_take] at this; have := HL8.out; simp; omega)
        rw [hL] at HRk
        obtain ⟨Ar, cr, hv, hcr, hCr⟩ := HRk.out.reads
        obtain ⟨nr, hnr⟩ : ∃ n, L.length = n := ⟨_, rfl⟩
        rw [hnr] at hv
        subst hv
        have HNR := Lib.hid hnr
        have HCR := Lib.hid hCr
        have HCP := Lib.hid hcr
        have P := Blk.new wr #[.int .i64 x.id, .bool x.bx.no, .int .i64 x.bx.lx, .int .i64 x.bx.ly, .int .i64 x.bx.hx, .int .i64 x.bx.hy] 85
        have HBp := Lib.hid (HBk.out.alloc HBk.out.size (.cells #[.int .i64 x.id, .bool x.bx.no, .int .i64 x.bx.lx, .int .i64 x.bx.ly, .int .i64 x.bx.hx, .int .i64 x.bx.hy] 85))
        have HCp := Lib.hid (hCr.alloc (.cells #[.int .i64 x.id, .bool x.bx.no, .int .i64 x.bx.lx, .int .i64 x.bx.ly, .int .i64 x.bx.hx, .int .i64 x.bx.hy] 85))
        clear hx hL hnr hCr hcr
        go_upto_region 7 with (fail)
        obtain ⟨w5, hW⟩ : ∃ Y, wr.alloc (.cells #[.int .i64 x.id, .bool x.bx.no, .int .i64 x.bx.lx, .int .i64 x.bx.ly, .int .i64 x.bx.hx, .int .i64 x.bx.hy] 85) = Y := ⟨_, rfl⟩
        rw [hW] at P HBp HCp ⊢
        obtain ⟨gp, hg⟩ : ∃ g, wr.heap.size = g := ⟨_, rfl⟩
        rw [hg] at P ⊢
        clear hW hg x0 x1 x2 x3 x4 x5
        have HP := Lib.hid P
        clear P HBk HRk HCR
        have HPU : Hid (∀ W, Bel w5 W → Calls Try.prog 46 #[.slice Ar nr cr, .int .u64 (IntKind.u64.wrap x.id), .int .i64 8, .bool false] W fun e w' => ∃ v, e = .returned v ∧ RB W w' v (L ++ put8 x.id) ∧ Bel W w') := Lib.hid (fun W hh => by
          have := rput8_calls Ar cr L x.id W (HCp.out.below hh) HCP.out (by have := HLN.out; omega)
          rw [HNR.out] at this
          refine this.mono ?_
          rintro e w' ⟨A', c', l', rfl, ho, hb⟩
          obtain ⟨h1, _, _, h4⟩ := ho
          exact ⟨_, rfl, by rw [← h1]; exact h4, hb⟩)
        have HBV := Lib.hid (fun W => refBytes_calls x.bx W)
        have HLV : Hid ((L ++ put8 x.id).length + (bytesV x.bx).length < 140737488355328) := Lib.hid (by rw [List.length_append, put8_len]; have := HLN.out; have := bytesV_len x.bx; omega)
        refine Reg.region_gen (P := Try.prog) (Ext := fun i W W' => i ≠ 8 → Bel W W') (R := fun i v W => match i with
            | 0 => v = .slice Ar nr cr
            | 1 => v = .pointer (some ⟨gp, 0, none⟩)
            | 2 => v = .int .i64 x.id
            | 3 => v = .int .u64 (IntKind.u64.wrap x.id)
            | 4 => RB w5 W v (L ++ put8 x.id)
            | 5 => v = .pointer (some ⟨gp, 1, none⟩)
            | 6 => v = .agg #[.bool x.bx.no, .int .i64 x.bx.lx, .int .i64 x.bx.ly, .int .i64 x.bx.hx, .int .i64 x.bx.hy]
            | 7 => RB w5 W v (bytesV x.bx)
            | 8 => RB w5 W v (L ++ put8 x.id ++ bytesV x.bx)
            | 9 => RB w5 W v (L ++ put8 x.id ++ bytesV x.bx)
            | _ => True) [(8, 4), (8, 7)] (fun m W => Below w5.heap.size w5 W) rfl (by kernel_rfl) (by kernel_rfl) (Bel.drew w5) (fun i W _ => Bel.refl W) (by intro i j v W W' hij hk hr hx h; by_cases e : i = 8; (subst e; split at h <;> first | exact h | exact absurd rfl hij | exact absurd hk (by decide) | exact (Bool.false_ne_true (hr.symm.trans (by kernel_rfl))).elim); (have hb := hx e; split at h <;> first | exact h | exact RB.below h hb)) ?_ ?_
        · intro i oi hoi a W m hW hmi hpre need old
          match i, hoi with
          | 0, hoi =>
            simp only [List.getElem?_toArray, List.getElem?_cons_succ, List.getElem?_cons_zero, Option.some.injEq] at hoi
            subst hoi
            refine Reg.ob2_plain rfl ?_
            have e3 : a.eval (.tmp 3) = .slice Ar nr cr := old 3 (by kernel_rfl)
            refine Reg.wp_val (W' := W) (v := _) (by simp only [execOp, e3, Reg.eval_const]; rfl) ⟨_, rfl, (fun _ => Bel.refl W), rfl, hW⟩
          | 1, hoi =>
            simp only [List.getElem?_toArray, List.getElem?_cons_succ, List.getElem?_cons_zero, Option.some.injEq] at hoi
            subst hoi
            refine Reg.ob2_plain rfl ?_
            have e5 : a.eval (.tmp 5) = .pointer (some ⟨gp, 0, none⟩) := old 5 (by kernel_rfl)
            refine Reg.wp_val (W' := W) (v := .pointer (some ⟨gp, 0, none⟩)) (by simp only [execOp, e5, Reg.eval_const, resolve, invoke, builtin, List.map_toArray, List.map_cons, List.map_nil, Option.map_some, Option.map_none]; (first | rfl | go_simp | (go_simp; rfl))) ⟨_, rfl, (fun _ => Bel.refl W), rfl, hW⟩
          | 2, hoi =>
            simp only [List.getElem?_toArray, List.getElem?_cons_succ, List.getElem?_cons_zero, Option.some.injEq] at hoi
            subst hoi
            refine Reg.ob2_plain rfl ?_
            have e25 : a.eval (.tmp 25) = .pointer (some ⟨gp, 0, none⟩) := need 1 _ 25 rfl rfl (by kernel_rfl) (by kernel_rfl)
            obtain ⟨p0, p1, p2, p3, p4, p5⟩ := Blk.cells6 (Blk.bel HP.out hW)
            refine Reg.wp_val (W' := W) (v := .int .i64 x.id) (by simp only [execOp, e25, Reg.eval_const, resolve, invoke, builtin, List.map_toArray, List.map_cons, List.map_nil, Option.map_some, Option.map_none]; (first | rfl | go_simp | (go_simp; rfl))) ⟨_, rfl, (fun _ => Bel.refl W), rfl, hW⟩
          | 3, hoi =>
            simp only [List.getElem?_toArray, List.getElem?_cons_succ, List.getElem?_cons_zero, Option.some.injEq] at hoi
            subst hoi
            refine Reg.ob2_plain rfl ?_
            have e26 : a.eval (.tmp 26) = .int .i64 x.id := need 2 _ 26 rfl rfl (by kernel_rfl) (by kernel_rfl)
            refine Reg.wp_val (W' := W) (v := .int .u64 (IntKind.u64.wrap x.id)) (by simp only [execOp, e26, Reg.eval_const, resolve, invoke, builtin, List.map_toArray, List.map_cons, List.map_nil, Option.map_some, Option.map_none]; (first | rfl | go_simp | (go_simp; rfl))) ⟨_, rfl, (fun _ => Bel.refl W), rfl, hW⟩
          | 4, hoi =>
            simp only [List.getElem?_toArray, List.getElem?_cons_succ, List.getElem?_cons_zero, Option.some.injEq] at hoi
            subst hoi
            refine Reg.ob2_plain rfl ?_
            have e24 : a.eval (.tmp 24) = .slice Ar nr cr := need 0 _ 24 rfl rfl (by kernel_rfl) (by kernel_rfl)
            have e27 : a.eval (.tmp 27) = .int .u64 (IntKind.u64.wrap x.id) := need 3 _ 27 rfl rfl (by kernel_rfl) (by kernel_rfl)
            refine Reg.wp_call (f := 46) (args := #[.slice Ar nr cr, .int .u64 (IntKind.u64.wrap x.id), .int .i64 8, .bool false]) (by simp only [execOp, e24, e27, Reg.eval_const, resolve, invoke, List.map_toArray, List.map_cons, List.map_nil]; go_simp) ?_
            refine (HPU.out W hW).mono ?_
            rintro e W' ⟨v, rfl, hr, hb⟩; exact ⟨v, rfl, v, rfl, fun _ => hb, hr.lower hW.size, bthen hW hb⟩
          | 5, hoi =>
            simp only [List.getElem?_toArray, List.getElem?_cons_succ, List.getElem?_cons_zero, Option.some.injEq] at hoi
            subst hoi
            refine Reg.ob2_plain rfl ?_
            have e5 : a.eval (.tmp 5) = .pointer (some ⟨gp, 0, none⟩) := old 5 (by kernel_rfl)
            refine Reg.wp_val (W' := W) (v := .pointer (some ⟨gp, 1, none⟩)) (by simp only [execOp, e5, Reg.eval_const, resolve, invoke, builtin, List.map_toArray, List.map_cons, List.map_nil, Option.map_some, Option.map_none]; (first | rfl | go_simp | (go_simp; rfl))) ⟨_, rfl, (fun _ => Bel.refl W), rfl, hW⟩
          | 6, hoi =>
            simp only [List.getElem?_toArray, List.getElem?_cons_succ, List.getElem?_cons_zero, Option.some.injEq] at hoi
            subst hoi
            refine Reg.ob2_plain rfl ?_
            have e29 : a.eval (.tmp 29) = .pointer (some ⟨gp, 1, none⟩) := need 5 _ 29 rfl rfl (by kernel_rfl) (by kernel_rfl)
            obtain ⟨p0, p1, p2, p3, p4, p5⟩ := Blk.cells6 (Blk.bel HP.out hW)
            refine Reg.wp_val (W' := W) (v := .agg #[.bool x.bx.no, .int .i64 x.bx.lx, .int .i64 x.bx.ly, .int .i64 x.bx.hx, .int .i64 x.bx.hy]) (by simp only [execOp, e29, Reg.eval_const, resolve, invoke, builtin, List.map_toArray, List.map_cons, List.map_nil, Option.map_some, Option.map_none]; (first | rfl | go_simp | (go_simp; rfl))) ⟨_, rfl, (fun _ => Bel.refl W), rfl, hW⟩
          | 7, hoi =>
            simp only [List.getElem?_toArray, List.getElem?_cons_succ, List.getElem?_cons_zero, Option.some.injEq] at hoi
            subst hoi
            refine Reg.ob2_plain rfl ?_
            have e30 : a.eval (.tmp 30) = .agg #[.bool x.bx.no, .int .i64 x.bx.lx, .int .i64 x.bx.ly, .int .i64 x.bx.hx, .int .i64 x.bx.hy] := need 6 _ 30 rfl rfl (by kernel_rfl) (by kernel_rfl)
            refine Reg.wp_call (f := 47) (args := #[.agg #[.bool x.bx.no, .int .i64 x.bx.lx, .int .i64 x.bx.ly, .int .i64 x.bx.hx, .int .i64 x.bx.hy]]) (by simp only [execOp, e30, Reg.eval_const, resolve, invoke, List.map_toArray, List.map_cons, List.map_nil]; go_simp) ?_
            refine (HBV.out W).mono ?_
            rintro e W' ⟨v, rfl, hr, hb⟩; exact ⟨v, rfl, v, rfl, fun _ => hb, hr.lower hW.size, bthen hW hb⟩
          | 8, hoi =>
            simp only [List.getElem?_toArray, List.getElem?_cons_succ, List.getElem?_cons_zero, Option.some.injEq] at hoi
            subst hoi
            refine Reg.ob2_plain rfl ?_
            have r28 := need 4 _ 28 rfl rfl (by kernel_rfl) (by kernel_rfl)
            simp only at r28
            obtain ⟨x28, e28⟩ : ∃ x, a.eval (.tmp 28) = x := ⟨_, rfl⟩
            rw [← Reg.eval_tmp, e28] at r28
            have r31 := need 7 _ 31 rfl rfl (by kernel_rfl) (by kernel_rfl)
            simp only at r31
            obtain ⟨x31, e31⟩ : ∃ x, a.eval (.tmp 31) = x := ⟨_, rfl⟩
            rw [← Reg.eval_tmp, e31] at r31
            obtain ⟨A9, c9, hx31, hc9, hC9⟩ := r31.reads
            refine wp_appB (ops := #[]) (w0 := w5) _ _ rfl rfl x28 (L ++ put8 x.id) (bytesV x.bx) A9 c9 e28 (e31.trans hx31) r28 hC9 hW HLV.out ?_
            intro v1 w1 hr1 hb1
            exact ⟨v1, rfl, fun h => absurd rfl h, hr1, hb1⟩
          | 9, hoi =>
            simp only [List.getElem?_toArray, List.getElem?_cons_succ, List.getElem?_cons_zero, Option.some.injEq] at hoi
            subst hoi
            refine Reg.ob2_plain rfl ?_
            have r32 := need 8 _ 32 rfl rfl (by kernel_rfl) (by kernel_rfl)
            simp only at r32
            obtain ⟨x32, e32⟩ : ∃ x, a.eval (.tmp 32) = x := ⟨_, rfl⟩
            rw [← Reg.eval_tmp, e32] at r32
            refine Reg.wp_val (W' := W) (v := _) (by simp only [execOp, e32, Reg.eval_const]; rfl) ⟨_, rfl, (fun _ => Bel.refl W), r32, hW⟩
          | n + 10, hoi => simp at hoi
        · intro a w9 m hW hall hsize hdef got same did
          have ha := Reg.act_of [24, 25, 26, 27, 28, 29, 30, 31, 32, 3] hsize hdef same (by kernel_rfl)
          simp only [List.foldl_cons, List.foldl_nil] at ha
          generalize a.tmps.getD 24 undef = y24 at ha
          generalize a.tmps.getD 25 undef = y25 at ha
          generalize a.tmps.getD 26 undef = y26 at ha
          generalize a.tmps.getD 27 undef = y27 at ha
          generalize a.tmps.getD 28 undef = y28 at ha
          generalize a.tmps.getD 29 undef = y29 at ha
          generalize a.tmps.getD 30 undef = y30 at ha
          generalize a.tmps.getD 31 undef = y31 at ha
          generalize a.tmps.getD 32 undef = y32 at ha
          have k3 := got 9 _ 3 rfl rfl (by kernel_rfl)
          simp only at k3
          generalize a.tmps.getD 3 undef = y3 at ha k3
          clear got same hsize hdef did
          subst ha
          simp only [List.setIfInBounds_toArray, List.set_cons_zero, List.set_cons_succ]
          go_wp2
          go_roundw
          case rel => exact ⟨k + 1, by go_num, by have := HKL.out; omega, Lib.hid (bthen HBp.out hW), Lib.hid (by rw [HES.out, ← List.append_assoc, HLE.out]; unfold entB; rw [← List.append_assoc]; exact k3.lower HBp.out.size)⟩
          case measure => (have := HKL.out; simp [intOf] <;> omega)
      · have : k = l.length := by omega
        subst this
        clear hlt hk
        go_wp2
        go_ret
        exact ⟨_, rfl, Lib.hid (by unfold bytesN; rw [if_pos HGE.out]; have := HRk.out; rw [List.take_length] at this; exact this), HBk⟩

end Go.Proofs.Ytljcingmjemohaa.K
