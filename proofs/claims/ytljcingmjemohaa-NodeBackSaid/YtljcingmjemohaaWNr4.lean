/- NodeReads walked. -/
import Derived.Test.YtljcingmjemohaaKB
import Derived.Handy
import Derived.Test.YtljcingmjemohaaWNr2
import Derived.Test.YtljcingmjemohaaWNr3
namespace Go.Proofs.Ytljcingmjemohaa.K
open Go Go.RowKit Go.Proofs.YtljcingmjemohaaW.PrintWords Go.Proofs.YtljcingmjemohaaW.PrintLast Go.Proofs.YtljcingmjemohaaW.PrintMore
set_option linter.unusedVariables false
set_option linter.unusedSimpArgs false
open Go.Proofs.Ytljcingmjemohaa.MBox (Bx noneB)
open Go.Proofs.Ytljcingmjemohaa.MChoose (En En0)
open Go.Proofs.Ytljcingmjemohaa.MNd
open Go.Proofs.Ytljcingmjemohaa.MBox (has good)
open Go.Proofs.Ytljcingmjemohaa.MOct (getV)
theorem parse_len {b : List Int} (h : b.length < 100000) (hb : bytesOk b) : (parseN b).2.1.length < 1000 := by
  by_cases h1 : b.length < 2
  · rw [parse_short1 h1]; decide
  have hr := hb _ (MOct.getD_mem b 1 (by omega))
  unfold parseN
  split
  · decide
  split
  · decide
  split
  · decide
  · simp only [ensTo_len]; omega
theorem nparse_calls (w : World) (A : Option Addr) (c : Nat) (b : List Int) (h : CB w A b) (hc : b.length ≤ c) (hb : bytesOk b) (hl : b.length < 1000000) :
    Calls Try.prog 22 #[.slice A b.length c] w (PAns w b) := by
  by_cases h1 : b.length < 2
  · exact nparse_short1 w A c b h hc hb hl h1
  have hr := hb _ (MOct.getD_mem b 1 (by omega))
  have hN : b.getD 1 0 = ((b.getD 1 0).toNat : Int) := by omega
  by_cases h2 : (b.length : Int) - 2 < 40 * (b.getD 1 0).toNat
  · exact nparse_short2 w A c b h hc hb hl h1 hN h2
  · exact nparse_main w A c b h hc hb hl h1 hN h2
theorem rparse_calls (w : World) (A : Option Addr) (c : Nat) (b : List Int) (h : CB w A b) (hc : b.length ≤ c) (hb : bytesOk b) (hl : b.length < 1000000) :
    Calls Try.prog 23 #[.slice A b.length c] w (PAns w b) := by
  by_cases h1 : b.length < 2
  · exact rparse_short1 w A c b h hc hb hl h1
  have hr := hb _ (MOct.getD_mem b 1 (by omega))
  have hN : b.getD 1 0 = ((b.getD 1 0).toNat : Int) := by omega
  by_cases h2 : (b.length : Int) - 2 < 40 * (b.getD 1 0).toNat
  · exact rparse_short2 w A c b h hc hb hl h1 hN h2
  · exact rparse_main w A c b h hc hb hl h1 hN h2
set_option maxHeartbeats 4000000 in
set_option maxRecDepth 100000 in
theorem reads_calls (w : World) (A : Option Addr) (c : Nat) (b : List Int) (h : CB w A b) (hc : b.length ≤ c) (hb : bytesOk b) :
    Calls Try.prog 4 #[.slice A b.length c] w fun e w' => e = .returned (.bool true) ∧ Bel w w' := by
  by_cases hg : 3000 < b.length
  · obtain ⟨t, ht⟩ : ∃ t, b.length = t := ⟨_, rfl⟩
    rw [ht] at hg ⊢
    have hlt : (3000 : Int) < t := by omega
    clear h hc hb ht hg
    go_enter Try.func4, Try.ntmps4
    go_wp2_with (go_at_call 10; refine (lives18 _).mono ?_; rintro e w2 ⟨rfl, hb2⟩; have HB2 := Lib.hid hb2; clear hb2)
    go_ret
    exact ⟨rfl, HB2.out⟩
  have HP1 : Hid (∀ W, Bel w W → Calls Try.prog 22 #[.slice A b.length c] W (PAns W b)) := Lib.hid (fun W hh => nparse_calls W A c b (h.below hh) hc hb (by omega))
  have HP2 : Hid (∀ W, Bel w W → Calls Try.prog 23 #[.slice A b.length c] W (PAns W b)) := Lib.hid (fun W hh => rparse_calls W A c b (h.below hh) hc hb (by omega))
  obtain ⟨⟨lv, l, er⟩, hpr⟩ : ∃ x, parseN b = x := ⟨_, rfl⟩
  have HLL : Hid (l.length < 1000) := Lib.hid (by
    have := parse_len (b := b) (by omega) hb
    rw [hpr] at this
    exact this)
  unfold PAns at HP1 HP2
  rw [hpr] at HP1 HP2
  dsimp only at HP1 HP2
  obtain ⟨n, hn⟩ : ∃ n, l.length = n := ⟨_, rfl⟩
  have HN := Lib.hid hn
  rw [hn] at HP1 HP2 HLL
  obtain ⟨t, ht⟩ : ∃ t, b.length = t := ⟨_, rfl⟩
  rw [ht] at HP1 HP2 hg ⊢
  have hlt : ¬ (3000 : Int) < t := by omega
  clear h hc hb ht hg hpr hn
  go_enter Try.func4, Try.ntmps4
  go_upto_region 4 with (go_at_call 22; refine (HP1.out _ (Bel.refl w)).mono ?_; rintro e w3 ⟨AX, cx, rfl, hkx, hCx, hbx⟩)
  clear hlt
  have X := Blk.new w3 #[.int .i64 lv, .slice AX n cx] 24
  have al := (Bel.refl w3).alloc (Nat.le_refl _) (.cells #[.int .i64 lv, .slice AX n cx] 24)
  have B4 := Lib.hid (bthen hbx.out al)
  have HCX := Lib.hid (hCx.out.below al)
  obtain ⟨w4, hW⟩ : ∃ Y, w3.alloc (.cells #[.int .i64 lv, .slice AX n cx] 24) = Y := ⟨_, rfl⟩
  rw [hW] at X B4 HCX ⊢
  obtain ⟨gx, hgx⟩ : ∃ x, w3.heap.size = x := ⟨_, rfl⟩
  rw [hgx] at X ⊢
  clear hW hgx al hkx hCx hbx
  have HX4 := Lib.hid X
  clear X
  go_upto_region 5 with (go_at_call 23; refine (HP2.out _ B4.out).mono ?_; rintro e w6 ⟨AY, cy, rfl, hky, hCy, hby⟩)
  have Y := Blk.new w6 #[.int .i64 lv, .slice AY n cy] 28
  have al := bthen hby.out ((Bel.refl w6).alloc (Nat.le_refl _) (.cells #[.int .i64 lv, .slice AY n cy] 28))
  have HCY := Lib.hid (hCy.out.below ((Bel.refl w6).alloc (Nat.le_refl _) (.cells #[.int .i64 lv, .slice AY n cy] 28)))
  have B5 := Lib.hid (bthen B4.out al)
  have HX := Lib.hid (Blk.bel HX4.out al)
  have HCX5 := Lib.hid (HCX.out.below al)
  obtain ⟨w5, hW⟩ : ∃ Y, w6.alloc (.cells #[.int .i64 lv, .slice AY n cy] 28) = Y := ⟨_, rfl⟩
  rw [hW] at Y HCY B5 HX HCX5 ⊢
  obtain ⟨gy, hgy⟩ : ∃ x, w6.heap.size = x := ⟨_, rfl⟩
  rw [hgy] at Y ⊢
  clear hW hgy al hky hCy hby
  have HY := Lib.hid Y
  clear Y
  have HLV : Hid (∀ W, Bel w5 W → Calls Try.prog 10 #[] W fun e w' => e = .returned (.bool true) ∧ Bel W w') := Lib.hid (fun W _ => lives18 W)
  have HPL : Hid (∀ W, Bel w5 W → Calls Try.prog 11 #[.agg #[.int .i64 lv, .slice AX n cx]] W fun e w' => ∃ A' c', e = .returned (.agg #[.int .i64 lv, .slice A' n c']) ∧ Hid (n ≤ c') ∧ Hid (CE w' A' l) ∧ Hid (Bel W w')) := Lib.hid (fun W h => by
    have := plain_calls lv AX cx l W (HCX5.out.below h) (by rw [HN.out]; have := HLL.out; omega)
    rw [HN.out] at this
    exact this)
  have HSM : Hid (∀ AQ cq W, Bel w5 W → CE W AQ l → Calls Try.prog 21 #[.agg #[.int .i64 lv, .slice AQ n cq], .agg #[.int .i64 lv, .slice AY n cy]] W fun e w' => e = .returned (.bool true) ∧ Bel W w') := Lib.hid (fun AQ cq W h hq => by
    have := rsame_calls lv lv AQ AY cq cy l l W hq (HCY.out.below h)
    rw [HN.out, show sameN lv lv l l = true by unfold sameN; rw [sameL_refl]; simp] at this
    exact this)
  have HEE : Hid ((er == er) = true) := Lib.hid (by simp)
  refine Reg.region_mono (P := Try.prog) (Ext := Bel) (R := fun i v W => match i with
      | 0 => v = .agg #[.int .i64 lv, .slice AX n cx]
      | 1 => ∃ AQ cq, v = .agg #[.int .i64 lv, .slice AQ n cq] ∧ CE W AQ l
      | 2 => v = .agg #[.int .i64 lv, .slice AY n cy]
      | 3 => v = .bool true
      | 4 => v = .bool true
      | 5 => v = .int .i64 er
      | 6 => v = .int .i64 er
      | 7 => v = .bool true
      | 8 => v = .bool true
      | 9 => v = .bool true
      | 10 => v = .bool true
      | 11 => v = .bool true
      | 12 => v = .bool true
      | _ => True) (fun W => Below w5.heap.size w5 W) rfl (by kernel_rfl) (by kernel_rfl) (Bel.drew w5) (fun W W' h h' => bthen h h') Bel.refl (by intro j v W W' hx h; split at h <;> first | exact h | (obtain ⟨AQ, cq, h1, h2⟩ := h; exact ⟨AQ, cq, h1, h2.below hx⟩)) ?_ ?_
  · intro i oi hoi a W hW need old
    match i, hoi with
    | 0, hoi =>
      simp only [List.getElem?_toArray, List.getElem?_cons_succ, List.getElem?_cons_zero, Option.some.injEq] at hoi
      subst hoi
      refine Reg.ob_plain rfl ?_
      have e3 : a.eval (.tmp 3) = .pointer (some ⟨gx, 0, none⟩) := old 3 (by kernel_rfl)
      obtain ⟨z0, z1⟩ := Blk.cells2 (Blk.bel HX.out hW)
      refine Reg.wp_val (W' := W) (v := .agg #[.int .i64 lv, .slice AX n cx]) (by simp only [execOp, e3, Reg.eval_const, resolve, invoke, builtin, List.map_toArray, List.map_cons, List.map_nil, Option.map_some, Option.map_none]; (first | rfl | go_simp | (go_simp; rfl))) ⟨_, rfl, Bel.refl W, rfl⟩
    | 1, hoi =>
      simp only [List.getElem?_toArray, List.getElem?_cons_succ, List.getElem?_cons_zero, Option.some.injEq] at hoi
      subst hoi
      refine Reg.ob_plain rfl ?_
      have e21 : a.eval (.tmp 21) = .agg #[.int .i64 lv, .slice AX n cx] := need 0 _ 21 rfl rfl (by kernel_rfl)
      refine Reg.wp_call (f := 11) (args := #[.agg #[.int .i64 lv, .slice AX n cx]]) (by simp only [execOp, e21, Reg.eval_const, resolve, invoke, List.map_toArray, List.map_cons, List.map_nil]; go_simp) ?_
      refine (HPL.out W hW).mono ?_
      rintro e W' ⟨AQ, cq, rfl, _, hC, hb⟩; exact ⟨_, rfl, _, rfl, hb.out, AQ, cq, rfl, hC.out⟩
    | 2, hoi =>
      simp only [List.getElem?_toArray, List.getElem?_cons_succ, List.getElem?_cons_zero, Option.some.injEq] at hoi
      subst hoi
      refine Reg.ob_plain rfl ?_
      have e5 : a.eval (.tmp 5) = .pointer (some ⟨gy, 0, none⟩) := old 5 (by kernel_rfl)
      obtain ⟨z0, z1⟩ := Blk.cells2 (Blk.bel HY.out hW)
      refine Reg.wp_val (W' := W) (v := .agg #[.int .i64 lv, .slice AY n cy]) (by simp only [execOp, e5, Reg.eval_const, resolve, invoke, builtin, List.map_toArray, List.map_cons, List.map_nil, Option.map_some, Option.map_none]; (first | rfl | go_simp | (go_simp; rfl))) ⟨_, rfl, Bel.refl W, rfl⟩
    | 3, hoi =>
      simp only [List.getElem?_toArray, List.getElem?_cons_succ, List.getElem?_cons_zero, Option.some.injEq] at hoi
      subst hoi
      refine Reg.ob_plain rfl ?_
      have r22 := need 1 _ 22 rfl rfl (by kernel_rfl)
      simp only at r22
      obtain ⟨x22, e22⟩ : ∃ x, a.eval (.tmp 22) = x := ⟨_, rfl⟩
      rw [← Reg.eval_tmp, e22] at r22
      have e23 : a.eval (.tmp 23) = .agg #[.int .i64 lv, .slice AY n cy] := need 2 _ 23 rfl rfl (by kernel_rfl)
      obtain ⟨AQ, cq, hx22, hC22⟩ := r22
      subst hx22
      refine Reg.wp_call (f := 21) (args := #[.agg #[.int .i64 lv, .slice AQ n cq], .agg #[.int .i64 lv, .slice AY n cy]]) (by simp only [execOp, e22, e23, Reg.eval_const, resolve, invoke, List.map_toArray, List.map_cons, List.map_nil]; go_simp) ?_
      refine (HSM.out AQ cq W hW hC22).mono ?_
      rintro e W' ⟨rfl, hb⟩; exact ⟨_, rfl, _, rfl, hb, rfl⟩
    | 4, hoi =>
      simp only [List.getElem?_toArray, List.getElem?_cons_succ, List.getElem?_cons_zero, Option.some.injEq] at hoi
      subst hoi
      refine Reg.ob_plain rfl ?_
      have e24 : a.eval (.tmp 24) = .bool true := need 3 _ 24 rfl rfl (by kernel_rfl)
      refine Reg.wp_val (W' := W) (v := _) (by simp only [execOp, e24, Reg.eval_const]; rfl) ⟨_, rfl, Bel.refl W, rfl⟩
    | 5, hoi =>
      simp only [List.getElem?_toArray, List.getElem?_cons_succ, List.getElem?_cons_zero, Option.some.injEq] at hoi
      subst hoi
      have eg : a.eval (.tmp 25) = .bool true := need 4 _ 25 rfl rfl (by kernel_rfl)
      refine Reg.ob_yes rfl rfl rfl eg ?_
      have e4 : a.eval (.tmp 4) = .int .i64 er := old 4 (by kernel_rfl)
      refine Reg.wp_val (W' := W) (v := _) (by simp only [execOp, e4, Reg.eval_const]; rfl) ⟨_, rfl, Bel.refl W, rfl⟩
    | 6, hoi =>
      simp only [List.getElem?_toArray, List.getElem?_cons_succ, List.getElem?_cons_zero, Option.some.injEq] at hoi
      subst hoi
      have eg : a.eval (.tmp 25) = .bool true := need 4 _ 25 rfl rfl (by kernel_rfl)
      refine Reg.ob_yes rfl rfl rfl eg ?_
      have e6 : a.eval (.tmp 6) = .int .i64 er := old 6 (by kernel_rfl)
      refine Reg.wp_val (W' := W) (v := _) (by simp only [execOp, e6, Reg.eval_const]; rfl) ⟨_, rfl, Bel.refl W, rfl⟩
    | 7, hoi =>
      simp only [List.getElem?_toArray, List.getElem?_cons_succ, List.getElem?_cons_zero, Option.some.injEq] at hoi
      subst hoi
      have eg : a.eval (.tmp 25) = .bool true := need 4 _ 25 rfl rfl (by kernel_rfl)
      refine Reg.ob_yes rfl rfl rfl eg ?_
      have e26 : a.eval (.tmp 26) = .int .i64 er := need 5 _ 26 rfl rfl (by kernel_rfl)
      have e27 : a.eval (.tmp 27) = .int .i64 er := need 6 _ 27 rfl rfl (by kernel_rfl)
      have hee := HEE.out
      refine Reg.wp_val (W' := W) (v := .bool true) (by simp only [execOp, e26, e27, Reg.eval_const, resolve, invoke, builtin, List.map_toArray, List.map_cons, List.map_nil, Option.map_some, Option.map_none]; (first | rfl | go_simp | (go_simp; rfl))) ⟨_, rfl, Bel.refl W, rfl⟩
    | 8, hoi =>
      simp only [List.getElem?_toArray, List.getElem?_cons_succ, List.getElem?_cons_zero, Option.some.injEq] at hoi
      subst hoi
      refine Reg.ob_plain rfl ?_
      have e25 : a.eval (.tmp 25) = .bool true := need 4 _ 25 rfl rfl (by kernel_rfl)
      have e28 : a.eval (.tmp 28) = .bool true := need 7 _ 28 rfl rfl (by kernel_rfl)
      refine Reg.wp_val (W' := W) (v := .bool true) (by simp only [execOp, e25, e28, Reg.eval_const, resolve, invoke, builtin, List.map_toArray, List.map_cons, List.map_nil, Option.map_some, Option.map_none]; (first | rfl | go_simp | (go_simp; rfl))) ⟨_, rfl, Bel.refl W, rfl⟩
    | 9, hoi =>
      simp only [List.getElem?_toArray, List.getElem?_cons_succ, List.getElem?_cons_zero, Option.some.injEq] at hoi
      subst hoi
      refine Reg.ob_plain rfl ?_
      have e29 : a.eval (.tmp 29) = .bool true := need 8 _ 29 rfl rfl (by kernel_rfl)
      refine Reg.wp_val (W' := W) (v := _) (by simp only [execOp, e29, Reg.eval_const]; rfl) ⟨_, rfl, Bel.refl W, rfl⟩
    | 10, hoi =>
      simp only [List.getElem?_toArray, List.getElem?_cons_succ, List.getElem?_cons_zero, Option.some.injEq] at hoi
      subst hoi
      have eg : a.eval (.tmp 30) = .bool true := need 9 _ 30 rfl rfl (by kernel_rfl)
      refine Reg.ob_yes rfl rfl rfl eg ?_
      refine Reg.wp_call (f := 10) (args := #[]) (by simp only [execOp, Reg.eval_const, resolve, invoke, List.map_toArray, List.map_cons, List.map_nil]; go_simp) ?_
      refine (HLV.out W hW).mono ?_
      rintro e W' ⟨rfl, hb⟩; exact ⟨_, rfl, _, rfl, hb, rfl⟩
    | 11, hoi =>
      simp only [List.getElem?_toArray, List.getElem?_cons_succ, List.getElem?_cons_zero, Option.some.injEq] at hoi
      subst hoi
      refine Reg.ob_plain rfl ?_
      have e30 : a.eval (.tmp 30) = .bool true := need 9 _ 30 rfl rfl (by kernel_rfl)
      have e31 : a.eval (.tmp 31) = .bool true := need 10 _ 31 rfl rfl (by kernel_rfl)
      refine Reg.wp_val (W' := W) (v := .bool true) (by simp only [execOp, e30, e31, Reg.eval_const, resolve, invoke, builtin, List.map_toArray, List.map_cons, List.map_nil, Option.map_some, Option.map_none]; (first | rfl | go_simp | (go_simp; rfl))) ⟨_, rfl, Bel.refl W, rfl⟩
    | 12, hoi =>
      simp only [List.getElem?_toArray, List.getElem?_cons_succ, List.getElem?_cons_zero, Option.some.injEq] at hoi
      subst hoi
      refine Reg.ob_plain rfl ?_
      have e32 : a.eval (.tmp 32) = .bool true := need 11 _ 32 rfl rfl (by kernel_rfl)
      refine Reg.wp_val (W' := W) (v := _) (by simp only [execOp, e32, Reg.eval_const]; rfl) ⟨_, rfl, Bel.refl W, rfl⟩
    | n + 13, hoi => simp at hoi
  · intro a w9 hW hsize hdef got same did
    have ha := Reg.act_of [21, 22, 23, 24, 25, 26, 27, 28, 29, 30, 31, 32, 2] hsize hdef same (by kernel_rfl)
    simp only [List.foldl_cons, List.foldl_nil] at ha
    generalize a.tmps.getD 21 undef = y21 at ha
    generalize a.tmps.getD 22 undef = y22 at ha
    generalize a.tmps.getD 23 undef = y23 at ha
    generalize a.tmps.getD 24 undef = y24 at ha
    generalize a.tmps.getD 25 undef = y25 at ha
    generalize a.tmps.getD 26 undef = y26 at ha
    generalize a.tmps.getD 27 undef = y27 at ha
    generalize a.tmps.getD 28 undef = y28 at ha
    generalize a.tmps.getD 29 undef = y29 at ha
    generalize a.tmps.getD 30 undef = y30 at ha
    generalize a.tmps.getD 31 undef = y31 at ha
    generalize a.tmps.getD 32 undef = y32 at ha
    have k2 := got 12 _ 2 rfl rfl
    simp only at k2
    rw [k2] at ha
    clear k2
    clear got same hsize hdef did
    subst ha
    simp only [List.setIfInBounds_toArray, List.set_cons_zero, List.set_cons_succ]
    go_wp2
    go_ret
    exact ⟨by first | rfl | simp, bthen B5.out hW⟩
theorem NodeReads_calls {w : World} (A : Option Addr) (c : Nat) (l : List Int) (hC : (Kd.int .u8).C w A l.length l) (hc : l.length ≤ c) (hq : (∀ x ∈ l, (Lit.int .u8 x).wf = true) ∧ l.length ≤ 9223372036854775807) :
    Calls Try.prog 4 #[.slice A l.length c] w fun e w' => e = .returned (.bool true) ∧ Below w.heap.size w w' := reads_calls w A c l hC hc (bytesOk_wf hq.1)

end Go.Proofs.Ytljcingmjemohaa.K
