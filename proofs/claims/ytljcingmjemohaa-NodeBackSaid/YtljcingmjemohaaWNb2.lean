/- NodeBack walked. -/
import Derived.Test.YtljcingmjemohaaKB
import Derived.Handy
import Derived.Test.YtljcingmjemohaaWNr4
import Derived.Test.YtljcingmjemohaaWNb1
import Derived.Test.YtljcingmjemohaaWBox3
namespace Go.Proofs.Ytljcingmjemohaa.K
open Go Go.RowKit Go.Proofs.YtljcingmjemohaaW.PrintWords Go.Proofs.YtljcingmjemohaaW.PrintLast Go.Proofs.YtljcingmjemohaaW.PrintMore
set_option linter.unusedVariables false
set_option linter.unusedSimpArgs false
open Go.Proofs.Ytljcingmjemohaa.MBox (Bx noneB)
open Go.Proofs.Ytljcingmjemohaa.MChoose (En En0)
open Go.Proofs.Ytljcingmjemohaa.MNd
open Go.Proofs.Ytljcingmjemohaa.MBox (has good)
open Go.Proofs.Ytljcingmjemohaa.MOct (getV)
theorem PAns.none {w w' : World} {b : List Int} {r : Int} {e : Ending} (hp : parseN b = (0, [], r)) (h : PAns w b e w') : ∃ A' c', e = .returned (.tuple #[.agg #[.int .i64 0, .slice A' 0 c'], .int .i64 r]) ∧ Bel w w' := by
  unfold PAns at h
  rw [hp] at h
  obtain ⟨A', c', h1, h2, h3, h4⟩ := h
  exact ⟨A', c', h1, h4.out⟩
theorem parse_wf (b : List Int) : ∀ x ∈ (parseN b).2.1, (Lit.int .i64 x.id).wf = true := by
  unfold parseN
  split
  · intro x hx; simp at hx
  split
  · intro x hx; simp at hx
  split
  · intro x hx; simp at hx
  · exact ensTo_wf b _
set_option maxHeartbeats 4000000 in
set_option maxRecDepth 100000 in
theorem nback_calls (lv : Int) (A : Option Addr) (c : Nat) (l : List En) (Ab : Option Addr) (cb : Nat) (b : List Int) (at_ : Int) (w : World) (h : CE w A l) (hc : l.length ≤ c) (hok : ∀ e ∈ l, okEn e) (hwf : ∀ x ∈ l, (Lit.int .i64 x.id).wf = true)
    (hB : CB w Ab b) (hcb : b.length ≤ cb) (hbb : bytesOk b) (hn : 0 ≤ at_ ∧ at_ < 18446744073709551616) :
    Calls Try.prog 6 #[.agg #[.int .i64 lv, .slice A l.length c], .slice Ab b.length cb, .int .u64 at_] w fun e w' => e = .returned (.bool true) ∧ Bel w w' := by
  have HC := Lib.hid h
  have HCC := Lib.hid hc
  have HOK := Lib.hid hok
  have HWF := Lib.hid hwf
  have HCB := Lib.hid hB
  have HCCB := Lib.hid hcb
  have HBB := Lib.hid hbb
  have HAT := Lib.hid hn
  have hm1 := h.len
  obtain ⟨n, hn1⟩ : ∃ n, l.length = n := ⟨_, rfl⟩
  obtain ⟨nb, hnb⟩ : ∃ n, b.length = n := ⟨_, rfl⟩
  have HL := Lib.hid hn1
  have HLB := Lib.hid hnb
  rw [hn1] at HCC hm1
  rw [hnb] at HCCB
  rw [hn1, hnb]
  have N := Blk.new w #[.int .i64 lv, .slice A n c] 24
  have HB : Hid (Bel w (w.alloc (.cells #[.int .i64 lv, .slice A n c] 24))) := Lib.hid ((Bel.refl w).alloc (Nat.le_refl _) _)
  clear h hc hok hwf hB hcb hbb hn hn1 hnb
  go_enter Try.func6, Try.ntmps6
  go_upto_region 1 with (fail)
  obtain ⟨W, hW⟩ : ∃ Y, w.alloc (.cells #[.int .i64 lv, .slice A n c] 24) = Y := ⟨_, rfl⟩
  rw [hW] at N HB ⊢
  clear hW
  obtain ⟨gn, hgn⟩ : ∃ x, w.heap.size = x := ⟨_, rfl⟩
  have HGN := Lib.hid hgn
  rw [hgn] at N ⊢
  clear hgn
  obtain ⟨z0, z1⟩ := Blk.cells2 N
  have HN := Lib.hid N
  clear N
  by_cases g1 : 100 < n
  · have g1' : (100 : Int) < n := by omega
    go_wp2_with (go_at_call 10; refine (lives18 _).mono ?_; rintro e w2 ⟨rfl, hb2⟩; have HB2 := Lib.hid (bthen HB.out hb2); clear hb2)
    go_ret
    exact ⟨rfl, HB2.out⟩
  have g1' : ¬ (100 : Int) < n := by omega
  by_cases g2 : 3000 < nb
  · have g2' : (3000 : Int) < nb := by omega
    go_wp2_with (go_at_call 10; refine (lives18 _).mono ?_; rintro e w2 ⟨rfl, hb2⟩; have HB2 := Lib.hid (bthen HB.out hb2); clear hb2)
    go_ret
    exact ⟨rfl, HB2.out⟩
  have g2' : ¬ (3000 : Int) < nb := by omega
  have HG12 := Lib.hid (show n ≤ 100 ∧ nb ≤ 3000 by omega)
  clear g1 g2
  have HPB : Hid (Calls Try.prog 22 #[.slice Ab nb cb] W (PAns W b)) := Lib.hid (by
    have := nparse_calls W Ab cb b (HCB.out.below HB.out) (by rw [HLB.out]; exact HCCB.out) HBB.out (by rw [HLB.out]; have := HG12.out; omega)
    rw [HLB.out] at this
    exact this)
  have HPK := Lib.hid (fun lv l => parse_back (b := b) (lv := lv) (l := l) HBB.out)
  have HPW : Hid (∀ x ∈ (parseN b).2.1, (Lit.int .i64 x.id).wf = true) := Lib.hid (parse_wf b)
  obtain ⟨⟨lx, ll, er⟩, hpr⟩ : ∃ x, parseN b = x := ⟨_, rfl⟩
  unfold PAns at HPB
  rw [hpr] at HPB HPW
  dsimp only at HPB HPW
  have HPR : Hid (er = 0 → bytesN lx ll = b) := Lib.hid (fun e => HPK.out lx ll (by rw [hpr, e]))
  obtain ⟨nx, hnx⟩ : ∃ x, ll.length = x := ⟨_, rfl⟩
  have HNX := Lib.hid hnx
  rw [hnx] at HPB
  clear hpr hnx HPK
  go_upto_region 4 with (go_at_call 22; refine (HPB.out).mono ?_; rintro e w3 ⟨AX, cx, rfl, hkx, hCx, hbx⟩)
  clear g1' g2' z0 z1
  have X := Blk.new w3 #[.int .i64 lx, .slice AX nx cx] 24
  have al := bthen hbx.out ((Bel.refl w3).alloc (Nat.le_refl _) (.cells #[.int .i64 lx, .slice AX nx cx] 24))
  have HCX := Lib.hid (hCx.out.below ((Bel.refl w3).alloc (Nat.le_refl _) (.cells #[.int .i64 lx, .slice AX nx cx] 24)))
  have HKX := Lib.hid hkx.out
  have B4 := Lib.hid (bthen HB.out al)
  have HN4 := Lib.hid (Blk.bel HN.out al)
  obtain ⟨w4, hW⟩ : ∃ Y, w3.alloc (.cells #[.int .i64 lx, .slice AX nx cx] 24) = Y := ⟨_, rfl⟩
  rw [hW] at X B4 HCX HN4 ⊢
  obtain ⟨gx, hgx⟩ : ∃ x, w3.heap.size = x := ⟨_, rfl⟩
  rw [hgx] at X ⊢
  clear hW hgx al hkx hCx hbx HPB
  have HX := Lib.hid X
  clear X
  go_cut [42] from 33 (fun v W' => v = .bool false ∧ Hid (Bel w4 W'))
  case first =>
    by_cases he : er = 0
    · subst he
      have HBX : Hid (∀ W, Bel w4 W → Calls Try.prog 14 #[.agg #[.int .i64 lx, .slice AX nx cx]] W fun e w' => ∃ v, e = .returned v ∧ Hid (RB W w' v b) ∧ Hid (Bel W w')) := Lib.hid (fun W h => by
        have := nbytes_calls lx AX cx ll W (HCX.out.below h) (by rw [HNX.out]; exact HKX.out) HPW.out
        rw [HNX.out, HPR.out rfl] at this
        exact this)
      have HSB : Hid (∀ W, Bel w4 W → (convert 32 9 (.slice Ab nb cb)).run Try.prog W = .ok (.string (strOfNums b)) W) := Lib.hid (fun W h => by
        have := (HCB.out.below (bthen B4.out h)).str (c := cb)
        rw [HLB.out] at this
        exact this)
      refine Reg.region_mono (P := Try.prog) (Ext := Bel) (R := fun i v W => match i with
          | 0 => v = .int .i64 0
          | 1 => v = .bool true
          | 2 => v = .bool true
          | 3 => v = .agg #[.int .i64 lx, .slice AX nx cx]
          | 4 => RB w4 W v b
          | 5 => v = .string (strOfNums b)
          | 6 => v = .slice Ab nb cb
          | 7 => v = .string (strOfNums b)
          | 8 => v = .bool false
          | 9 => v = .bool false
          | _ => True) (fun W => Below w4.heap.size w4 W) rfl (by kernel_rfl) (by kernel_rfl) (Bel.drew w4) (fun W W' h h' => bthen h h') Bel.refl (by intro j v W W' hx h; split at h <;> first | exact h | exact RB.below h hx) ?_ ?_
      · intro i oi hoi a W hW need old
        match i, hoi with
        | 0, hoi =>
          simp only [List.getElem?_toArray, List.getElem?_cons_succ, List.getElem?_cons_zero, Option.some.injEq] at hoi
          subst hoi
          refine Reg.ob_plain rfl ?_
          have e8 : a.eval (.tmp 8) = .int .i64 0 := old 8 (by kernel_rfl)
          refine Reg.wp_val (W' := W) (v := _) (by simp only [execOp, e8, Reg.eval_const]; rfl) ⟨_, rfl, Bel.refl W, rfl⟩
        | 1, hoi =>
          simp only [List.getElem?_toArray, List.getElem?_cons_succ, List.getElem?_cons_zero, Option.some.injEq] at hoi
          subst hoi
          refine Reg.ob_plain rfl ?_
          have e33 : a.eval (.tmp 33) = .int .i64 0 := need 0 _ 33 rfl rfl (by kernel_rfl)
          refine Reg.wp_val (W' := W) (v := .bool true) (by simp only [execOp, e33, Reg.eval_const, resolve, invoke, builtin, List.map_toArray, List.map_cons, List.map_nil, Option.map_some, Option.map_none]; (first | rfl | go_simp | (go_simp; rfl))) ⟨_, rfl, Bel.refl W, rfl⟩
        | 2, hoi =>
          simp only [List.getElem?_toArray, List.getElem?_cons_succ, List.getElem?_cons_zero, Option.some.injEq] at hoi
          subst hoi
          refine Reg.ob_plain rfl ?_
          have e34 : a.eval (.tmp 34) = .bool true := need 1 _ 34 rfl rfl (by kernel_rfl)
          refine Reg.wp_val (W' := W) (v := _) (by simp only [execOp, e34, Reg.eval_const]; rfl) ⟨_, rfl, Bel.refl W, rfl⟩
        | 3, hoi =>
          simp only [List.getElem?_toArray, List.getElem?_cons_succ, List.getElem?_cons_zero, Option.some.injEq] at hoi
          subst hoi
          have eg : a.eval (.tmp 35) = .bool true := need 2 _ 35 rfl rfl (by kernel_rfl)
          refine Reg.ob_yes rfl rfl rfl eg ?_
          have e7 : a.eval (.tmp 7) = .pointer (some ⟨gx, 0, none⟩) := old 7 (by kernel_rfl)
          obtain ⟨z0, z1⟩ := Blk.cells2 (Blk.bel HX.out hW)
          refine Reg.wp_val (W' := W) (v := .agg #[.int .i64 lx, .slice AX nx cx]) (by simp only [execOp, e7, Reg.eval_const, resolve, invoke, builtin, List.map_toArray, List.map_cons, List.map_nil, Option.map_some, Option.map_none]; (first | rfl | go_simp | (go_simp; rfl))) ⟨_, rfl, Bel.refl W, rfl⟩
        | 4, hoi =>
          simp only [List.getElem?_toArray, List.getElem?_cons_succ, List.getElem?_cons_zero, Option.some.injEq] at hoi
          subst hoi
          have eg : a.eval (.tmp 35) = .bool true := need 2 _ 35 rfl rfl (by kernel_rfl)
          refine Reg.ob_yes rfl rfl rfl eg ?_
          have e36 : a.eval (.tmp 36) = .agg #[.int .i64 lx, .slice AX nx cx] := need 3 _ 36 rfl rfl (by kernel_rfl)
          refine Reg.wp_call (f := 14) (args := #[.agg #[.int .i64 lx, .slice AX nx cx]]) (by simp only [execOp, e36, Reg.eval_const, resolve, invoke, List.map_toArray, List.map_cons, List.map_nil]; go_simp) ?_
          refine (HBX.out W hW).mono ?_
          rintro e W' ⟨v, rfl, hr, hb⟩; exact ⟨v, rfl, v, rfl, hb.out, hr.out.lower hW.size⟩
        | 5, hoi =>
          simp only [List.getElem?_toArray, List.getElem?_cons_succ, List.getElem?_cons_zero, Option.some.injEq] at hoi
          subst hoi
          have eg : a.eval (.tmp 35) = .bool true := need 2 _ 35 rfl rfl (by kernel_rfl)
          refine Reg.ob_yes rfl rfl rfl eg ?_
          have r37 := need 4 _ 37 rfl rfl (by kernel_rfl)
          simp only at r37
          obtain ⟨x37, e37⟩ : ∃ x, a.eval (.tmp 37) = x := ⟨_, rfl⟩
          rw [← Reg.eval_tmp, e37] at r37
          have hs9 := r37.str
          refine Reg.wp_val (W' := W) (v := .string (strOfNums b)) (by simp only [execOp, e37, Reg.eval_const, resolve, invoke, builtin, List.map_toArray, List.map_cons, List.map_nil, Option.map_some, Option.map_none]; (first | rfl | go_simp | (go_simp; rfl))) ⟨_, rfl, Bel.refl W, rfl⟩
        | 6, hoi =>
          simp only [List.getElem?_toArray, List.getElem?_cons_succ, List.getElem?_cons_zero, Option.some.injEq] at hoi
          subst hoi
          have eg : a.eval (.tmp 35) = .bool true := need 2 _ 35 rfl rfl (by kernel_rfl)
          refine Reg.ob_yes rfl rfl rfl eg ?_
          have e1 : a.eval (.tmp 1) = .slice Ab nb cb := old 1 (by kernel_rfl)
          refine Reg.wp_val (W' := W) (v := _) (by simp only [execOp, e1, Reg.eval_const]; rfl) ⟨_, rfl, Bel.refl W, rfl⟩
        | 7, hoi =>
          simp only [List.getElem?_toArray, List.getElem?_cons_succ, List.getElem?_cons_zero, Option.some.injEq] at hoi
          subst hoi
          have eg : a.eval (.tmp 35) = .bool true := need 2 _ 35 rfl rfl (by kernel_rfl)
          refine Reg.ob_yes rfl rfl rfl eg ?_
          have e39 : a.eval (.tmp 39) = .slice Ab nb cb := need 6 _ 39 rfl rfl (by kernel_rfl)
          have hs9 := HSB.out W hW
          refine Reg.wp_val (W' := W) (v := .string (strOfNums b)) (by simp only [execOp, e39, Reg.eval_const, resolve, invoke, builtin, List.map_toArray, List.map_cons, List.map_nil, Option.map_some, Option.map_none]; (first | rfl | go_simp | (go_simp; rfl))) ⟨_, rfl, Bel.refl W, rfl⟩
        | 8, hoi =>
          simp only [List.getElem?_toArray, List.getElem?_cons_succ, List.getElem?_cons_zero, Option.some.injEq] at hoi
          subst hoi
          have eg : a.eval (.tmp 35) = .bool true := need 2 _ 35 rfl rfl (by kernel_rfl)
          refine Reg.ob_yes rfl rfl rfl eg ?_
          have e38 : a.eval (.tmp 38) = .string (strOfNums b) := need 5 _ 38 rfl rfl (by kernel_rfl)
          have e40 : a.eval (.tmp 40) = .string (strOfNums b) := need 7 _ 40 rfl rfl (by kernel_rfl)
          have hbb : ((strOfNums b).toList != (strOfNums b).toList) = false := by simp
          refine Reg.wp_val (W' := W) (v := .bool false) (by simp only [execOp, e38, e40, Reg.eval_const, resolve, invoke, builtin, List.map_toArray, List.map_cons, List.map_nil, Option.map_some, Option.map_none]; (first | rfl | go_simp | (go_simp; rfl))) ⟨_, rfl, Bel.refl W, rfl⟩
        | 9, hoi =>
          simp only [List.getElem?_toArray, List.getElem?_cons_succ, List.getElem?_cons_zero, Option.some.injEq] at hoi
          subst hoi
          refine Reg.ob_plain rfl ?_
          have e35 : a.eval (.tmp 35) = .bool true := need 2 _ 35 rfl rfl (by kernel_rfl)
          have e41 : a.eval (.tmp 41) = .bool false := need 8 _ 41 rfl rfl (by kernel_rfl)
          refine Reg.wp_val (W' := W) (v := .bool false) (by simp only [execOp, e35, e41, Reg.eval_const, resolve, invoke, builtin, List.map_toArray, List.map_cons, List.map_nil, Option.map_some, Option.map_none]; (first | rfl | go_simp | (go_simp; rfl))) ⟨_, rfl, Bel.refl W, rfl⟩
        | n + 10, hoi => simp at hoi
      · intro a w9 hW hsize hdef got same did
        have ha := Reg.act_of [33, 34, 35, 36, 37, 38, 39, 40, 41, 42] hsize hdef same (by kernel_rfl)
        simp only [List.foldl_cons, List.foldl_nil] at ha
        generalize a.tmps.getD 33 undef = y33 at ha
        generalize a.tmps.getD 34 undef = y34 at ha
        generalize a.tmps.getD 35 undef = y35 at ha
        generalize a.tmps.getD 36 undef = y36 at ha
        generalize a.tmps.getD 37 undef = y37 at ha
        generalize a.tmps.getD 38 undef = y38 at ha
        generalize a.tmps.getD 39 undef = y39 at ha
        generalize a.tmps.getD 40 undef = y40 at ha
        generalize a.tmps.getD 41 undef = y41 at ha
        have k42 := got 9 _ 42 rfl rfl
        simp only at k42
        rw [k42] at ha
        clear k42
        clear got same hsize hdef did
        subst ha
        simp only [List.setIfInBounds_toArray, List.set_cons_zero, List.set_cons_succ]
        first | go_wp2 | skip
        go_meet
        exact ⟨by first | rfl | simp, Lib.hid hW⟩
    · have he1 : (er == 0) = false := by simpa using he
      clear he
      go_quiet (fail)
      go_wp2
      go_meet
      exact ⟨by first | rfl | simp, Lib.hid (by first | exact Bel.drew _ | exact bdrewN (Bel.refl _) _)⟩
  case rest =>
    obtain ⟨rfl, HB45⟩ := hcut
    have B5 := Lib.hid (bthen B4.out HB45.out)
    have HN5 := Lib.hid (Blk.bel HN4.out HB45.out)
    obtain ⟨z0, z1⟩ := Blk.cells2 HN5.out
    have HBN : Hid (∀ W', Bel w W' → Calls Try.prog 14 #[.agg #[.int .i64 lv, .slice A n c]] W' fun e w' => ∃ v, e = .returned v ∧ Hid (RB W' w' v (bytesN lv l)) ∧ Hid (Bel W' w')) := Lib.hid (fun W' h => by
      have := nbytes_calls lv A c l W' (HC.out.below h) (by rw [HL.out]; exact HCC.out) HWF.out
      rw [HL.out] at this
      exact this)
    have HGC : Hid (∀ W', Bel w W' → Calls Try.prog 12 #[.agg #[.int .i64 lv, .slice A n c]] W' fun e w' => e = .returned (.bool (goodN lv l)) ∧ Bel W' w') := Lib.hid (fun W' h => by
      have := ngood_calls lv A c l W' (HC.out.below h) HWF.out
      rw [HL.out] at this
      exact this)
    cases hgd : goodN lv l
    · have hT : bytesN lv l = [] := by unfold bytesN; rw [hgd]; rfl
      rw [hT] at HBN
      rw [hgd] at HGC
      clear hgd hT
      go_wp2_with (first
        | (go_at_call 10; refine (lives18 _).mono ?_; rintro e w8 ⟨rfl, hb8⟩; have HB8 := Lib.hid (bthen B7.out hb8); clear hb8)
        | (go_at_call 12; refine (HGC.out _ B6.out).mono ?_; rintro e w7 ⟨rfl, hb7⟩; have B7 := Lib.hid (bthen B6.out hb7); clear hb7)
        | (go_at_call 14; refine (HBN.out _ B5.out).mono ?_; rintro e w6 ⟨v6, rfl, hr6, hb6⟩; obtain ⟨A6, c6, hv6, -, -⟩ := hr6.out.reads; subst hv6; have B6 := Lib.hid (bthen B5.out hb6.out); have HN6 := Lib.hid (Blk.bel HN5.out hb6.out); clear hr6 hb6 z0 z1; obtain ⟨z0, z1⟩ := Blk.cells2 HN6.out))
      go_ret
      exact ⟨by first | rfl | simp, HB8.out⟩
    · have HTL := Lib.hid (bytesN_len hgd)
      have HBK : Hid (parseN (bytesN lv l) = (lv, l, 0)) := Lib.hid (bytes_back hgd HOK.out)
      have HCT : Hid (∀ m, m < (bytesN lv l).length → parseN ((bytesN lv l).take m) = (0, [], 8)) := Lib.hid (fun m hm => bytes_cut hgd hm)
      have HMO : Hid (∀ x, parseN (bytesN lv l ++ [x]) = (0, [], 9)) := Lib.hid (fun x => bytes_more hgd x)
      have HTB : Hid (bytesOk (bytesN lv l)) := Lib.hid bytesOk_N
      rw [hgd] at HGC
      obtain ⟨T, hT⟩ : ∃ T, bytesN lv l = T := ⟨_, rfl⟩
      rw [hT] at HTL HBK HCT HMO HTB HBN
      clear hgd hT
      go_upto_region 7 with (go_at_call 14; refine (HBN.out _ B5.out).mono ?_; rintro e w6 ⟨v6, rfl, hr6, hb6⟩; obtain ⟨A6, c6, hv6, hk6, hC6⟩ := hr6.out.reads; subst hv6; have B6 := Lib.hid (bthen B5.out hb6.out); have HN6 := Lib.hid (Blk.bel HN5.out hb6.out); clear hr6 hb6 z0 z1; obtain ⟨z0, z1⟩ := Blk.cells2 HN6.out)
      obtain ⟨t, ht⟩ : ∃ t, T.length = t := ⟨_, rfl⟩
      rw [ht] at HTL HCT hk6 ⊢
      have HT := Lib.hid ht
      have HC6 := Lib.hid hC6
      have HK6 := Lib.hid hk6
      have HTN : Hid (2 ≤ t ∧ t < 100000) := Lib.hid (by have h1 := HTL.out; have h2 := HL.out; have h3 := HG12.out; omega)
      have htz : ((t : Int) == 0) = false := by have := HTN.out; simp; omega
      clear ht hC6 hk6
      go_upto_region 11 with (go_at_call 12; refine (HGC.out _ B6.out).mono ?_; rintro e w7 ⟨rfl, hb7⟩; have B7 := Lib.hid (bthen B6.out hb7); have HC7 := Lib.hid (HC6.out.below hb7); have HN7 := Lib.hid (Blk.bel HN6.out hb7); clear hb7 z0 z1)
      have HP7 : Hid (Calls Try.prog 22 #[.slice A6 t c6] w7 fun e w' => ∃ A' c', e = .returned (.tuple #[.agg #[.int .i64 lv, .slice A' n c'], .int .i64 0]) ∧ Hid (n ≤ c') ∧ Hid (CE w' A' l) ∧ Hid (Bel w7 w')) := Lib.hid (by
        have := nparse_calls w7 A6 c6 T HC7.out (by rw [HT.out]; exact HK6.out) HTB.out (by rw [HT.out]; have := HTN.out; omega)
        unfold PAns at this
        rw [HBK.out, HT.out] at this
        dsimp only at this
        rw [HL.out] at this
        exact this)
      clear htz
      go_upto_region 12 with (go_at_call 22; refine (HP7.out).mono ?_; rintro e w8 ⟨AO, co, rfl, hko, hCo, hbo⟩)
      have O := Blk.new w8 #[.int .i64 lv, .slice AO n co] 24
      have al := bthen hbo.out ((Bel.refl w8).alloc (Nat.le_refl _) (.cells #[.int .i64 lv, .slice AO n co] 24))
      have HCO := Lib.hid (hCo.out.below ((Bel.refl w8).alloc (Nat.le_refl _) (.cells #[.int .i64 lv, .slice AO n co] 24)))
      have B10 := Lib.hid (bthen B7.out al)
      have HC10 := Lib.hid (HC7.out.below al)
      have HN10 := Lib.hid (Blk.bel HN7.out al)
      obtain ⟨w10, hW⟩ : ∃ Y, w8.alloc (.cells #[.int .i64 lv, .slice AO n co] 24) = Y := ⟨_, rfl⟩
      rw [hW] at O HCO B10 HC10 HN10 ⊢
      obtain ⟨go, hgo⟩ : ∃ x, w8.heap.size = x := ⟨_, rfl⟩
      rw [hgo] at O ⊢
      clear hW hgo al hko hCo hbo HP7
      have HO10 := Lib.hid O
      clear O
      have hwt : IntKind.u64.wrap (t : Int) = t := by rw [IntKind.wrap_u64]; have := HTN.out; omega
      obtain ⟨m, hm⟩ : ∃ m : Nat, (m : Int) = at_ % t := ⟨(at_ % t).toNat, by have := Int.emod_nonneg at_ (show (t : Int) ≠ 0 by have := HTN.out; omega); omega⟩
      have HM : Hid (m < t) := Lib.hid (by have := Int.emod_lt_of_pos at_ (show (0 : Int) < t by have := HTN.out; omega); omega)
      have hmod : at_.tmod t = m := by rw [hm]; exact Int.tmod_eq_emod_of_nonneg HAT.out.1
      have hwm : IntKind.u64.wrap (m : Int) = m := by rw [IntKind.wrap_u64]; have := HM.out; have := HTN.out; omega
      have hwm2 : IntKind.i64.wrap (m : Int) = m := IntWalk.i64_in _ (by have := HM.out; have := HTN.out; omega)
      have htnz : ¬ (t : Int) = 0 := by have := HTN.out; omega
      have htnz2 : ¬ t = 0 := by have := HTN.out; omega
      have hmc : m ≤ c6 := by have := HM.out; have := HK6.out; omega
      clear hm
      have HP12 : Hid (Calls Try.prog 22 #[.slice A6 m c6] w10 fun e w' => ∃ A' c', e = .returned (.tuple #[.agg #[.int .i64 0, .slice A' 0 c'], .int .i64 8]) ∧ Bel w10 w') := Lib.hid (by
        have hl : (T.take m).length = m := by rw [List.length_take, HT.out]; have := HM.out; omega
        have := nparse_calls w10 A6 c6 (T.take m) (HC10.out.take m (by rw [HT.out]; have := HM.out; omega)) (by rw [hl]; exact hmc) (fun x hx => HTB.out x (List.mem_of_mem_take hx)) (by rw [hl]; have := HM.out; have := HTN.out; omega)
        rw [hl] at this
        exact this.mono (fun e w' h => PAns.none (HCT.out m HM.out) h))
      go_upto_region 13 with (go_at_call 22; refine (HP12.out).mono ?_; rintro e w11 ⟨Aa, ca, rfl, hb11⟩)
      clear hwt hmod hwm hwm2 htnz htnz2 hmc
      have al := bthen hb11 ((Bel.refl w11).alloc (Nat.le_refl _) (.cells #[.int .i64 0, .slice Aa 0 ca] 24))
      have B12 := Lib.hid (bthen B10.out al)
      have HC12 := Lib.hid (HC10.out.below al)
      have HN12 := Lib.hid (Blk.bel HN10.out al)
      have HO12 := Lib.hid (Blk.bel HO10.out al)
      have HCO12 := Lib.hid (HCO.out.below al)
      obtain ⟨w12, hW⟩ : ∃ Y, w11.alloc (.cells #[.int .i64 0, .slice Aa 0 ca] 24) = Y := ⟨_, rfl⟩
      rw [hW] at B12 HC12 HN12 HO12 HCO12 ⊢
      clear hW al hb11 HP12
      have HPM : Hid (∀ W' A9 c9 n9, CB W' A9 ([] ++ T ++ [0]) → ([] ++ T ++ [(0 : Int)]).length = n9 → n9 ≤ c9 → Calls Try.prog 22 #[.slice A9 n9 c9] W' fun e w' => ∃ A' c', e = .returned (.tuple #[.agg #[.int .i64 0, .slice A' 0 c'], .int .i64 9]) ∧ Bel W' w') := Lib.hid (fun W' A9 c9 n9 h1 h2 h3 => by
        subst h2
        have := nparse_calls W' A9 c9 ([] ++ T ++ [0]) h1 h3 (by rw [List.nil_append]; exact bytesOk_append HTB.out (fun y hy => by rw [List.mem_singleton] at hy; rw [hy]; decide)) (by rw [List.nil_append, List.length_append, HT.out]; have := HTN.out; simp; omega)
        exact this.mono (fun e w' h => PAns.none (by rw [List.nil_append]; exact HMO.out 0) h))
      go_upto_region 14 with (first
        | (at_builtin; refine app1 (w0 := w12) (.tmp 77) (.tmp 78) rfl rfl v13 ([] ++ T) 0 rfl rfl h13.out hb13.out (by rw [List.nil_append, HT.out]; have := HTN.out; omega) ?_
           intro v14 w14 h14 hb14
           obtain ⟨A14, c14, hv14, hc14, hC14⟩ := h14.out.reads
           obtain ⟨n14, hn14⟩ : ∃ n, ([] ++ T ++ [(0 : Int)]).length = n := ⟨_, rfl⟩
           rw [hn14] at hv14 hc14
           subst hv14
           have HP14 := Lib.hid (HPM.out w14 A14 c14 n14 hC14 hn14 hc14)
           clear hc14 hC14 h14 hn14)
        | (at_builtin; refine appN (w0 := w12) (.tmp 75) (.tmp 76) rfl rfl (.slice (some ⟨w12.heap.size, 0, none⟩) 0 0) [] T A6 c6 rfl (by rw [HT.out]; rfl) (RB.lit0 (Nat.le_refl _)) (HC12.out.alloc _) ((Below.refl _ w12).alloc (Nat.le_refl _) _) (by rw [HT.out]; have := HTN.out; simp; omega) ?_
           intro v13 w13 h13 hb13)
        | (go_at_call 22; refine (HP14.out).mono ?_; rintro e w15 ⟨Ac, cc, rfl, hb15⟩))
      have al := bthen hb14.out (bthen hb15 ((Bel.refl w15).alloc (Nat.le_refl _) (.cells #[.int .i64 0, .slice Ac 0 cc] 24)))
      have B16 := Lib.hid (bthen B12.out al)
      have HN16 := Lib.hid (Blk.bel HN12.out al)
      have HO16 := Lib.hid (Blk.bel HO12.out al)
      have HCO16 := Lib.hid (HCO12.out.below al)
      obtain ⟨w16, hW⟩ : ∃ Y, w15.alloc (.cells #[.int .i64 0, .slice Ac 0 cc] 24) = Y := ⟨_, rfl⟩
      rw [hW] at B16 HN16 HO16 HCO16 ⊢
      clear hW al hb14 hb15 hb13 h13 HP14
      obtain ⟨z0, z1⟩ := Blk.cells2 HN16.out
      go_wp2
      clear z0 z1
      have HBD0 := Lib.hid (fun W' h => bound_calls W' A c l h (by rw [HL.out]; exact HCC.out))
      have HHL := Lib.hid (bnd_holds l)
      obtain ⟨bb, hbb⟩ : ∃ x, bnd l = x := ⟨_, rfl⟩
      rw [hbb] at HBD0 HHL
      rw [HL.out] at HBD0
      clear hbb
      go_loopw [86] (fun i wr => ∃ (k : Nat), i = .int .i64 k ∧ k ≤ n ∧ Hid (Bel w16 wr)) (fun i _ => n - (intOf i).toNat)
      case atStart => exact ⟨0, rfl, by omega, Lib.hid (Bel.refl _)⟩
      case round =>
        obtain ⟨k, rfl, hk, HBk⟩ := hrel
        by_cases hlt : k < n
        · have hltl : k < l.length := by have := HL.out; omega
          obtain ⟨bq, oq, e8, _, x0, x1, x2, x3, x4, x5⟩ := en_at (HC.out.below (bthen B16.out HBk.out)) k hltl
          subst e8
          have HHO0 := Lib.hid (HHL.out _ (List.getElem_mem hltl))
          obtain ⟨x, hx⟩ : ∃ x, l[k]'hltl = x := ⟨_, rfl⟩
          rw [hx] at x0 x1 x2 x3 x4 x5 HHO0
          have HKL := Lib.hid hlt
          have P := Blk.new wr #[.int .i64 x.id, .bool x.bx.no, .int .i64 x.bx.lx, .int .i64 x.bx.ly, .int .i64 x.bx.hx, .int .i64 x.bx.hy] 57
          have al := (Bel.refl wr).alloc (Nat.le_refl _) (.cells #[.int .i64 x.id, .bool x.bx.no, .int .i64 x.bx.lx, .int .i64 x.bx.ly, .int .i64 x.bx.hx, .int .i64 x.bx.hy] 57)
          have BK5 := Lib.hid (bthen HBk.out al)
          clear hx
          go_upto_region 17 with (fail)
          obtain ⟨w5, hW⟩ : ∃ Y, wr.alloc (.cells #[.int .i64 x.id, .bool x.bx.no, .int .i64 x.bx.lx, .int .i64 x.bx.ly, .int .i64 x.bx.hx, .int .i64 x.bx.hy] 57) = Y := ⟨_, rfl⟩
          rw [hW] at P BK5 ⊢
          obtain ⟨gp, hg⟩ : ∃ g, wr.heap.size = g := ⟨_, rfl⟩
          rw [hg] at P ⊢
          clear hW hg al x0 x1 x2 x3 x4 x5
          have HP := Lib.hid P
          have HNp := Lib.hid (Blk.bel HN16.out BK5.out)
          clear P
          have HBD : Hid (∀ W', Bel w5 W' → Calls Try.prog 16 #[.slice (some ⟨bq, oq, none⟩) n c] W' fun e w' => e = .returned (.agg #[.bool bb.no, .int .i64 bb.lx, .int .i64 bb.ly, .int .i64 bb.hx, .int .i64 bb.hy]) ∧ Bel W' w') := Lib.hid (fun W' h => HBD0.out W' (HC.out.below (bthen B16.out (bthen BK5.out h))))
          have HHO : Hid (∀ W', Calls Try.prog 34 #[.agg #[.bool bb.no, .int .i64 bb.lx, .int .i64 bb.ly, .int .i64 bb.hx, .int .i64 bb.hy], .agg #[.bool x.bx.no, .int .i64 x.bx.lx, .int .i64 x.bx.ly, .int .i64 x.bx.hx, .int .i64 x.bx.hy]] W' fun e w' => e = .returned (.bool true) ∧ Bel W' w') := Lib.hid (fun W' => by
            have := refHolds_calls bb x.bx W'
            rw [HHO0.out] at this
            exact this)
          refine Reg.region_mono (P := Try.prog) (Ext := Bel) (R := fun i v W => match i with
              | 0 => v = .pointer (some ⟨gn, 1, none⟩)
              | 1 => v = .slice (some ⟨bq, oq, none⟩) n c
              | 2 => v = .agg #[.bool bb.no, .int .i64 bb.lx, .int .i64 bb.ly, .int .i64 bb.hx, .int .i64 bb.hy]
              | 3 => v = .pointer (some ⟨gp, 1, none⟩)
              | 4 => v = .agg #[.bool x.bx.no, .int .i64 x.bx.lx, .int .i64 x.bx.ly, .int .i64 x.bx.hx, .int .i64 x.bx.hy]
              | 5 => v = .bool true
              | 6 => v = .bool false
              | _ => True) (fun W => Below w5.heap.size w5 W) rfl (by kernel_rfl) (by kernel_rfl) (Bel.drew w5) (fun W W' h h' => bthen h h') Bel.refl (by intro j v W W' hx h; split at h <;> exact h) ?_ ?_
          · intro i oi hoi a W hW need old
            match i, hoi with
            | 0, hoi =>
              simp only [List.getElem?_toArray, List.getElem?_cons_succ, List.getElem?_cons_zero, Option.some.injEq] at hoi
              subst hoi
              refine Reg.ob_plain rfl ?_
              have e3 : a.eval (.tmp 3) = .pointer (some ⟨gn, 0, none⟩) := old 3 (by kernel_rfl)
              refine Reg.wp_val (W' := W) (v := .pointer (some ⟨gn, 1, none⟩)) (by simp only [execOp, e3, Reg.eval_const, resolve, invoke, builtin, List.map_toArray, List.map_cons, List.map_nil, Option.map_some, Option.map_none]; (first | rfl | go_simp | (go_simp; rfl))) ⟨_, rfl, Bel.refl W, rfl⟩
            | 1, hoi =>
              simp only [List.getElem?_toArray, List.getElem?_cons_succ, List.getElem?_cons_zero, Option.some.injEq] at hoi
              subst hoi
              refine Reg.ob_plain rfl ?_
              have e90 : a.eval (.tmp 90) = .pointer (some ⟨gn, 1, none⟩) := need 0 _ 90 rfl rfl (by kernel_rfl)
              obtain ⟨z0, z1⟩ := Blk.cells2 (Blk.bel HNp.out hW)
              refine Reg.wp_val (W' := W) (v := .slice (some ⟨bq, oq, none⟩) n c) (by simp only [execOp, e90, Reg.eval_const, resolve, invoke, builtin, List.map_toArray, List.map_cons, List.map_nil, Option.map_some, Option.map_none]; (first | rfl | go_simp | (go_simp; rfl))) ⟨_, rfl, Bel.refl W, rfl⟩
            | 2, hoi =>
              simp only [List.getElem?_toArray, List.getElem?_cons_succ, List.getElem?_cons_zero, Option.some.injEq] at hoi
              subst hoi
              refine Reg.ob_plain rfl ?_
              have e91 : a.eval (.tmp 91) = .slice (some ⟨bq, oq, none⟩) n c := need 1 _ 91 rfl rfl (by kernel_rfl)
              refine Reg.wp_call (f := 16) (args := #[.slice (some ⟨bq, oq, none⟩) n c]) (by simp only [execOp, e91, Reg.eval_const, resolve, invoke, List.map_toArray, List.map_cons, List.map_nil]; go_simp) ?_
              refine (HBD.out W hW).mono ?_
              rintro e W' ⟨rfl, hb⟩; exact ⟨_, rfl, _, rfl, hb, rfl⟩
            | 3, hoi =>
              simp only [List.getElem?_toArray, List.getElem?_cons_succ, List.getElem?_cons_zero, Option.some.injEq] at hoi
              subst hoi
              refine Reg.ob_plain rfl ?_
              have e17 : a.eval (.tmp 17) = .pointer (some ⟨gp, 0, none⟩) := old 17 (by kernel_rfl)
              refine Reg.wp_val (W' := W) (v := .pointer (some ⟨gp, 1, none⟩)) (by simp only [execOp, e17, Reg.eval_const, resolve, invoke, builtin, List.map_toArray, List.map_cons, List.map_nil, Option.map_some, Option.map_none]; (first | rfl | go_simp | (go_simp; rfl))) ⟨_, rfl, Bel.refl W, rfl⟩
            | 4, hoi =>
              simp only [List.getElem?_toArray, List.getElem?_cons_succ, List.getElem?_cons_zero, Option.some.injEq] at hoi
              subst hoi
              refine Reg.ob_plain rfl ?_
              have e93 : a.eval (.tmp 93) = .pointer (some ⟨gp, 1, none⟩) := need 3 _ 93 rfl rfl (by kernel_rfl)
              obtain ⟨p0, p1, p2, p3, p4, p5⟩ := Blk.cells6 (Blk.bel HP.out hW)
              refine Reg.wp_val (W' := W) (v := .agg #[.bool x.bx.no, .int .i64 x.bx.lx, .int .i64 x.bx.ly, .int .i64 x.bx.hx, .int .i64 x.bx.hy]) (by simp only [execOp, e93, Reg.eval_const, resolve, invoke, builtin, List.map_toArray, List.map_cons, List.map_nil, Option.map_some, Option.map_none]; (first | rfl | go_simp | (go_simp; rfl))) ⟨_, rfl, Bel.refl W, rfl⟩
            | 5, hoi =>
              simp only [List.getElem?_toArray, List.getElem?_cons_succ, List.getElem?_cons_zero, Option.some.injEq] at hoi
              subst hoi
              refine Reg.ob_plain rfl ?_
              have e92 : a.eval (.tmp 92) = .agg #[.bool bb.no, .int .i64 bb.lx, .int .i64 bb.ly, .int .i64 bb.hx, .int .i64 bb.hy] := need 2 _ 92 rfl rfl (by kernel_rfl)
              have e94 : a.eval (.tmp 94) = .agg #[.bool x.bx.no, .int .i64 x.bx.lx, .int .i64 x.bx.ly, .int .i64 x.bx.hx, .int .i64 x.bx.hy] := need 4 _ 94 rfl rfl (by kernel_rfl)
              refine Reg.wp_call (f := 34) (args := #[.agg #[.bool bb.no, .int .i64 bb.lx, .int .i64 bb.ly, .int .i64 bb.hx, .int .i64 bb.hy], .agg #[.bool x.bx.no, .int .i64 x.bx.lx, .int .i64 x.bx.ly, .int .i64 x.bx.hx, .int .i64 x.bx.hy]]) (by simp only [execOp, e92, e94, Reg.eval_const, resolve, invoke, List.map_toArray, List.map_cons, List.map_nil]; go_simp) ?_
              refine (HHO.out W).mono ?_
              rintro e W' ⟨rfl, hb⟩; exact ⟨_, rfl, _, rfl, hb, rfl⟩
            | 6, hoi =>
              simp only [List.getElem?_toArray, List.getElem?_cons_succ, List.getElem?_cons_zero, Option.some.injEq] at hoi
              subst hoi
              refine Reg.ob_plain rfl ?_
              have e95 : a.eval (.tmp 95) = .bool true := need 5 _ 95 rfl rfl (by kernel_rfl)
              refine Reg.wp_val (W' := W) (v := .bool false) (by simp only [execOp, e95, Reg.eval_const, resolve, invoke, builtin, List.map_toArray, List.map_cons, List.map_nil, Option.map_some, Option.map_none]; (first | rfl | go_simp | (go_simp; rfl))) ⟨_, rfl, Bel.refl W, rfl⟩
            | n + 7, hoi => simp at hoi
          · intro a w9 hW hsize hdef got same did
            have ha := Reg.act_of [90, 91, 92, 93, 94, 95, 96] hsize hdef same (by kernel_rfl)
            simp only [List.foldl_cons, List.foldl_nil] at ha
            generalize a.tmps.getD 90 undef = y90 at ha
            generalize a.tmps.getD 91 undef = y91 at ha
            generalize a.tmps.getD 92 undef = y92 at ha
            generalize a.tmps.getD 93 undef = y93 at ha
            generalize a.tmps.getD 94 undef = y94 at ha
            generalize a.tmps.getD 95 undef = y95 at ha
            have k96 := got 6 _ 96 rfl rfl
            simp only at k96
            rw [k96] at ha
            clear k96
            clear got same hsize hdef did
            subst ha
            simp only [List.setIfInBounds_toArray, List.set_cons_zero, List.set_cons_succ]
            go_wp2
            go_roundw
            case rel => exact ⟨k + 1, by go_num, by have := HKL.out; omega, Lib.hid (bthen BK5.out hW)⟩
            case measure => (have := HKL.out; simp [intOf] <;> omega)
        · have hkn : k = n := by omega
          have hnl : ¬ (k : Int) < n := by omega
          obtain ⟨z0, z1⟩ := Blk.cells2 (Blk.bel HN16.out HBk.out)
          obtain ⟨o0, o1⟩ := Blk.cells2 (Blk.bel HO16.out HBk.out)
          have HSM : Hid (Calls Try.prog 20 #[.agg #[.int .i64 lv, .slice AO n co], .agg #[.int .i64 lv, .slice A n c]] wr fun e w' => e = .returned (.bool true) ∧ Bel wr w') := Lib.hid (by
            have := nsame_calls lv lv AO A co c l l wr (HCO16.out.below HBk.out) (HC.out.below (bthen B16.out HBk.out))
            rw [HL.out, show sameN lv lv l l = true by unfold sameN; rw [sameL_refl]; simp] at this
            exact this)
          have BF := Lib.hid (bthen B16.out HBk.out)
          clear hlt hk hkn
          go_wp2_with (first
            | (go_at_call 10; refine (lives18 _).mono ?_; rintro e w18 ⟨rfl, hb18⟩; have HB18 := Lib.hid (bthen B17.out hb18); clear hb18)
            | (go_at_call 20; refine (HSM.out).mono ?_; rintro e w17 ⟨rfl, hb17⟩; have B17 := Lib.hid (bthen BF.out hb17); clear hb17))
          go_ret
          exact ⟨by first | rfl | simp, HB18.out⟩
theorem i64_of {n : Int} (h : (Lit.int .i64 n).wf = true) : MBox.I64 n := by
  simp only [Lit.wf, IntKind.min, IntKind.max, IntKind.signed, IntKind.bits, Bool.and_eq_true, decide_eq_true_eq, if_true] at h
  unfold MBox.I64
  omega
theorem ok_en {l : List TEn} (h : ∀ y ∈ l, okTn y) : ∀ e ∈ l.map toEn, okEn e := by
  intro e he
  obtain ⟨y, hy, rfl⟩ := List.mem_map.1 he
  obtain ⟨h1, -, ⟨h2, h3⟩, h4, h5⟩ := h y hy
  exact ⟨i64_of h1, i64_of h2, i64_of h3, i64_of h4, i64_of h5⟩
theorem NodeBack_calls {w : World} (cs0 : Array Value) (x0 : Int × List TEn) (hx0 : KNd.K w x0 cs0.toList) (hq0 : (Lit.int .i64 x0.1).wf = true ∧ ((∀ y ∈ x0.2, okTn y) ∧ x0.2.length ≤ 9223372036854775807))
    (A : Option Addr) (c : Nat) (l : List Int) (hC : (Kd.int .u8).C w A l.length l) (hc : l.length ≤ c) (hq : (∀ x ∈ l, (Lit.int .u8 x).wf = true) ∧ l.length ≤ 9223372036854775807) (n : Int) (hn : (Lit.int .u64 n).wf = true) :
    Calls Try.prog 6 #[.agg cs0, .slice A l.length c, .int .u64 n] w fun e w' => e = .returned (.bool true) ∧ Below w.heap.size w w' := by
  obtain ⟨A0, c0, rfl, h1, h2⟩ := node_arg hx0
  exact nback_calls x0.1 A0 c0 _ A c l n w h2 h1 (ok_en hq0.2.1) (ids_wf hq0.2.1) hC hc (bytesOk_wf hq.1) (by have := u64_wf hn; exact this)

end Go.Proofs.Ytljcingmjemohaa.K
