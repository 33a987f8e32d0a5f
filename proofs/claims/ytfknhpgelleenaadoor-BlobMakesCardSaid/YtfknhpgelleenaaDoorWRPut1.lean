/- The reference's points, as bytes. -/
import Derived.Test.YtfknhpgelleenaaDoorKB
import Derived.Handy
import Derived.Test.YtfknhpgelleenaaDoorKM
import Derived.Test.YtfknhpgelleenaaDoorMWkb
import Derived.Test.YtfknhpgelleenaaDoorKO
import Derived.Test.YtfknhpgelleenaaDoorWShp
namespace Go.Proofs.YtfknhpgelleenaaDoor.K
open Go Go.RowKit Go.Proofs.YtfknhpgelleenaaDoorW.PrintWords Go.Proofs.YtfknhpgelleenaaDoorW.PrintLast Go.Proofs.YtfknhpgelleenaaDoorW.PrintMore
set_option linter.unusedVariables false
set_option linter.unusedSimpArgs false
open Go.Proofs.YtfknhpgelleenaaDoor.MShape (Sh flats)
theorem u64w (n : Int) : IntKind.u64.wrap n = MWkb.u64 n := by rw [IntKind.wrap_u64]; rfl
set_option maxHeartbeats 2000000 in
set_option maxRecDepth 100000 in
/-- The reference's points. -/
theorem rpoints_calls (A : Option Addr) (c : Nat) (l : List Int) (v : Value) (pts : List (Int × Int)) (o : Bool) (w : World) (B : Nat) (hB : B ≤ w.heap.size) (hC : CB w A l) (hc : l.length ≤ c) (hp : PtsB B w v pts) (hl : l.length + (MWkb.run o pts).length + 9 < 140737488355328) :
    Calls Tryd.prog 86 #[.slice A l.length c, v, .bool o] w fun e w' => ∃ v, e = .returned v ∧ Hid (RB w w' v (l ++ MWkb.run o pts)) ∧ Hid (Bel w w') := by
  obtain ⟨a1, c1, rfl, _, hm1, hx1⟩ := hp
  have HX := Lib.hid hx1
  have HL := Lib.hid hl
  have HBB := Lib.hid hB
  have hU := u64w pts.length
  have HN1 := Lib.hid (ref02_Put_calls A c l (MWkb.u64 pts.length) 4 o w hC hc (by omega) (MWkb.u64_in _).1 (MWkb.u64_in _).2)
  clear hx1 hl hC hc hB
  go_enter Tryd.func86, Tryd.ntmps86
  go_wp2_with (go_at_call 70; refine (HN1.out).mono ?_; rintro e w2 ⟨v2, rfl, hr2, hb2⟩)
  have HR2 := Lib.hid hr2
  have HB2 := Lib.hid hb2
  clear hr2 hb2 hU HN1
  go_loopw [0, 17] (fun bv i wr => ∃ (k : Nat), i = .int .i64 k ∧ k ≤ pts.length ∧ Hid (RB w wr bv (l ++ (MWkb.nm pts.length 4 o ++ MWkb.ptsE o (pts.take k)))) ∧ Hid (Bel w wr)) (fun _ i _ => pts.length - (intOf i).toNat)
  case atStart => exact ⟨0, rfl, by omega, Lib.hid (by rw [List.take_zero, show MWkb.ptsE o [] = [] from rfl, List.append_nil]; exact HR2.out), HB2⟩
  case round =>
    obtain ⟨k, rfl, hk, HRk, HBk⟩ := hrel
    by_cases hlt : k < pts.length
    · obtain ⟨b, off, rfl, hb, x0, x1⟩ := HX.out k hlt
      have x0 := kc HBk.out x0
      have x1 := kc HBk.out x1
      have htk := MWkb.ptsE_take (o := o) hlt
      have hle := MWkb.ptsE_take_le o pts (k + 1)
      obtain ⟨p, hp⟩ : ∃ p, pts[k] = p := ⟨_, rfl⟩
      rw [hp] at x0 x1 htk
      obtain ⟨px, py⟩ := p
      dsimp only at x0 x1
      have HTK := Lib.hid htk
      have HLT := Lib.hid hlt
      obtain ⟨L, hL⟩ : ∃ L, l ++ (MWkb.nm pts.length 4 o ++ MWkb.ptsE o (pts.take k)) = L := ⟨_, rfl⟩
      have HLL : Hid (L.length + 25 < 140737488355328) := Lib.hid (by
        rw [htk, List.length_append, MWkb.pt_len] at hle
        have := HL.out
        unfold MWkb.run at this
        rw [List.length_append] at this
        rw [← hL, List.length_append, List.length_append]
        omega)
      have HLE := Lib.hid hL
      rw [hL] at HRk
      clear hp htk hle hL
      obtain ⟨A9, c9, hv9, hc9, hC9⟩ := HRk.out.reads
      obtain ⟨n9, hn9⟩ : ∃ n, L.length = n := ⟨_, rfl⟩
      have HN9 := Lib.hid hn9
      rw [hn9] at hv9 hc9
      have HC9 := Lib.hid hC9
      have HCC := Lib.hid hc9
      clear hC9 hc9 hn9
      subst hv9
      have S := Blk.new wr #[.int .i64 px, .int .i64 py] 41
      have HB5 : Hid (Bel wr (wr.alloc (.cells #[.int .i64 px, .int .i64 py] 41))) := Lib.hid ((Bel.refl wr).alloc (Nat.le_refl _) _)
      go_upto_region 5 with (fail)
      obtain ⟨w5, hW⟩ : ∃ X, wr.alloc (.cells #[.int .i64 px, .int .i64 py] 41) = X := ⟨_, rfl⟩
      rw [hW] at S HB5 ⊢
      obtain ⟨gp, hg⟩ : ∃ X, wr.heap.size = X := ⟨_, rfl⟩
      rw [hg] at S ⊢
      clear hW hg x0 x1
      have HP5 := Lib.hid S
      clear S
      have HU1 := Lib.hid (u64w px)
      have HU2 := Lib.hid (u64w py)
      have HPU1 : Hid (∀ W, Below w5.heap.size w5 W → Calls Tryd.prog 70 #[.slice A9 n9 c9, .int .u64 (MWkb.u64 px), .int .i64 8, .bool o] W fun e w' => ∃ v, e = .returned v ∧ RB W w' v (L ++ MWkb.nm px 8 o) ∧ Below W.heap.size W w') := Lib.hid (fun W h => by
        have h9 := ref02_Put_calls A9 c9 L (MWkb.u64 px) 8 o W (HC9.out.below (bthen HB5.out h)) (by rw [HN9.out]; exact HCC.out) (by have := HLL.out; omega) (MWkb.u64_in _).1 (MWkb.u64_in _).2
        rw [HN9.out] at h9
        exact h9)
      have HPU2 : Hid (∀ (W : World) (A6 : Option Addr) (c6 : Nat), CB W A6 (L ++ MWkb.nm px 8 o) → (L ++ MWkb.nm px 8 o).length ≤ c6 → Calls Tryd.prog 70 #[.slice A6 (L ++ MWkb.nm px 8 o).length c6, .int .u64 (MWkb.u64 py), .int .i64 8, .bool o] W fun e w' => ∃ v, e = .returned v ∧ RB W w' v (L ++ MWkb.nm px 8 o ++ MWkb.nm py 8 o) ∧ Below W.heap.size W w') := Lib.hid (fun W A6 c6 h1 h2 => ref02_Put_calls A6 c6 (L ++ MWkb.nm px 8 o) (MWkb.u64 py) 8 o W h1 h2 (by rw [List.length_append, MWkb.nm8]; have := HLL.out; omega) (MWkb.u64_in _).1 (MWkb.u64_in _).2)
      refine Reg.region_mono (P := Tryd.prog) (Ext := Bel) (R := fun i v W => match i with
          | 0 => v = .slice A9 n9 c9
          | 1 => v = .pointer (some ⟨gp, 0, none⟩)
          | 2 => v = .int .i64 px
          | 3 => v = .int .u64 (MWkb.u64 px)
          | 4 => v = .bool o
          | 5 => RB w5 W v (L ++ MWkb.nm px 8 o)
          | 6 => v = .pointer (some ⟨gp, 1, none⟩)
          | 7 => v = .int .i64 py
          | 8 => v = .int .u64 (MWkb.u64 py)
          | 9 => v = .bool o
          | 10 => RB w5 W v (L ++ MWkb.nm px 8 o ++ MWkb.nm py 8 o)
          | 11 => RB w5 W v (L ++ MWkb.nm px 8 o ++ MWkb.nm py 8 o)
          | _ => True) (fun W => Below w5.heap.size w5 W) rfl (by kernel_rfl) (by kernel_rfl) (Bel.drew w5) (fun W W' h h' => bthen h h') Bel.refl (by intro j v W W' hx h; split at h <;> first | exact h | exact RB.below h hx) ?_ ?_
      · intro i oi hoi a W hW need old
        match i, hoi with
        | 0, hoi =>
          simp only [List.getElem?_toArray, List.getElem?_cons_succ, List.getElem?_cons_zero, Option.some.injEq] at hoi
          subst hoi
          refine Reg.ob_plain rfl ?_
          have e0 : a.eval (.tmp 0) = .slice A9 n9 c9 := old 0 (by kernel_rfl)
          refine Reg.wp_val (W' := W) (v := _) (by simp only [execOp, e0, Reg.eval_const]; rfl) ⟨_, rfl, Bel.refl W, rfl⟩
        | 1, hoi =>
          simp only [List.getElem?_toArray, List.getElem?_cons_succ, List.getElem?_cons_zero, Option.some.injEq] at hoi
          subst hoi
          refine Reg.ob_plain rfl ?_
          have e8 : a.eval (.tmp 8) = .pointer (some ⟨gp, 0, none⟩) := old 8 (by kernel_rfl)
          refine Reg.wp_val (W' := W) (v := .pointer (some ⟨gp, 0, none⟩)) (by simp only [execOp, e8, Reg.eval_const, resolve, invoke, builtin, List.map_toArray, List.map_cons, List.map_nil, Option.map_some, Option.map_none]; (first | rfl | go_simp | (go_simp; rfl))) ⟨_, rfl, Bel.refl W, rfl⟩
        | 2, hoi =>
          simp only [List.getElem?_toArray, List.getElem?_cons_succ, List.getElem?_cons_zero, Option.some.injEq] at hoi
          subst hoi
          refine Reg.ob_plain rfl ?_
          have e22 : a.eval (.tmp 22) = .pointer (some ⟨gp, 0, none⟩) := need 1 _ 22 rfl rfl (by kernel_rfl)
          have c0 : W.cell? ⟨gp, 0, none⟩ = some (.int .i64 px) := Blk.cell (Blk.bel HP5.out hW) 0 rfl
          refine Reg.wp_val (W' := W) (v := .int .i64 px) (by simp only [execOp, e22, Reg.eval_const, resolve, invoke, builtin, List.map_toArray, List.map_cons, List.map_nil, Option.map_some, Option.map_none]; (first | rfl | go_simp | (go_simp; rfl))) ⟨_, rfl, Bel.refl W, rfl⟩
        | 3, hoi =>
          simp only [List.getElem?_toArray, List.getElem?_cons_succ, List.getElem?_cons_zero, Option.some.injEq] at hoi
          subst hoi
          refine Reg.ob_plain rfl ?_
          have e23 : a.eval (.tmp 23) = .int .i64 px := need 2 _ 23 rfl rfl (by kernel_rfl)
          have hx := HU1.out
          refine Reg.wp_val (W' := W) (v := .int .u64 (MWkb.u64 px)) (by simp only [execOp, e23, Reg.eval_const, resolve, invoke, builtin, List.map_toArray, List.map_cons, List.map_nil, Option.map_some, Option.map_none]; (first | rfl | go_simp | (go_simp; rfl))) ⟨_, rfl, Bel.refl W, rfl⟩
        | 4, hoi =>
          simp only [List.getElem?_toArray, List.getElem?_cons_succ, List.getElem?_cons_zero, Option.some.injEq] at hoi
          subst hoi
          refine Reg.ob_plain rfl ?_
          have e2 : a.eval (.tmp 2) = .bool o := old 2 (by kernel_rfl)
          refine Reg.wp_val (W' := W) (v := _) (by simp only [execOp, e2, Reg.eval_const]; rfl) ⟨_, rfl, Bel.refl W, rfl⟩
        | 5, hoi =>
          simp only [List.getElem?_toArray, List.getElem?_cons_succ, List.getElem?_cons_zero, Option.some.injEq] at hoi
          subst hoi
          refine Reg.ob_plain rfl ?_
          have e21 : a.eval (.tmp 21) = .slice A9 n9 c9 := need 0 _ 21 rfl rfl (by kernel_rfl)
          have e24 : a.eval (.tmp 24) = .int .u64 (MWkb.u64 px) := need 3 _ 24 rfl rfl (by kernel_rfl)
          have e25 : a.eval (.tmp 25) = .bool o := need 4 _ 25 rfl rfl (by kernel_rfl)
          refine Reg.wp_call (f := 70) (args := #[.slice A9 n9 c9, .int .u64 (MWkb.u64 px), .int .i64 8, .bool o]) (by simp only [execOp, e21, e24, e25, Reg.eval_const, resolve, invoke, List.map_toArray, List.map_cons, List.map_nil]; go_simp) ?_
          refine (HPU1.out W hW).mono ?_
          rintro e W' ⟨v, rfl, hr, hb⟩; exact ⟨v, rfl, v, rfl, hb, hr.lower hW.size⟩
        | 6, hoi =>
          simp only [List.getElem?_toArray, List.getElem?_cons_succ, List.getElem?_cons_zero, Option.some.injEq] at hoi
          subst hoi
          refine Reg.ob_plain rfl ?_
          have e8 : a.eval (.tmp 8) = .pointer (some ⟨gp, 0, none⟩) := old 8 (by kernel_rfl)
          refine Reg.wp_val (W' := W) (v := .pointer (some ⟨gp, 1, none⟩)) (by simp only [execOp, e8, Reg.eval_const, resolve, invoke, builtin, List.map_toArray, List.map_cons, List.map_nil, Option.map_some, Option.map_none]; (first | rfl | go_simp | (go_simp; rfl))) ⟨_, rfl, Bel.refl W, rfl⟩
        | 7, hoi =>
          simp only [List.getElem?_toArray, List.getElem?_cons_succ, List.getElem?_cons_zero, Option.some.injEq] at hoi
          subst hoi
          refine Reg.ob_plain rfl ?_
          have e27 : a.eval (.tmp 27) = .pointer (some ⟨gp, 1, none⟩) := need 6 _ 27 rfl rfl (by kernel_rfl)
          have c0 : W.cell? ⟨gp, 1, none⟩ = some (.int .i64 py) := Blk.cell (Blk.bel HP5.out hW) 1 rfl
          refine Reg.wp_val (W' := W) (v := .int .i64 py) (by simp only [execOp, e27, Reg.eval_const, resolve, invoke, builtin, List.map_toArray, List.map_cons, List.map_nil, Option.map_some, Option.map_none]; (first | rfl | go_simp | (go_simp; rfl))) ⟨_, rfl, Bel.refl W, rfl⟩
        | 8, hoi =>
          simp only [List.getElem?_toArray, List.getElem?_cons_succ, List.getElem?_cons_zero, Option.some.injEq] at hoi
          subst hoi
          refine Reg.ob_plain rfl ?_
          have e28 : a.eval (.tmp 28) = .int .i64 py := need 7 _ 28 rfl rfl (by kernel_rfl)
          have hx := HU2.out
          refine Reg.wp_val (W' := W) (v := .int .u64 (MWkb.u64 py)) (by simp only [execOp, e28, Reg.eval_const, resolve, invoke, builtin, List.map_toArray, List.map_cons, List.map_nil, Option.map_some, Option.map_none]; (first | rfl | go_simp | (go_simp; rfl))) ⟨_, rfl, Bel.refl W, rfl⟩
        | 9, hoi =>
          simp only [List.getElem?_toArray, List.getElem?_cons_succ, List.getElem?_cons_zero, Option.some.injEq] at hoi
          subst hoi
          refine Reg.ob_plain rfl ?_
          have e2 : a.eval (.tmp 2) = .bool o := old 2 (by kernel_rfl)
          refine Reg.wp_val (W' := W) (v := _) (by simp only [execOp, e2, Reg.eval_const]; rfl) ⟨_, rfl, Bel.refl W, rfl⟩
        | 10, hoi =>
          simp only [List.getElem?_toArray, List.getElem?_cons_succ, List.getElem?_cons_zero, Option.some.injEq] at hoi
          subst hoi
          refine Reg.ob_plain rfl ?_
          have r26 := need 5 _ 26 rfl rfl (by kernel_rfl)
          simp only at r26
          obtain ⟨x26, e26⟩ : ∃ x, a.eval (.tmp 26) = x := ⟨_, rfl⟩
          rw [← Reg.eval_tmp, e26] at r26
          have e29 : a.eval (.tmp 29) = .int .u64 (MWkb.u64 py) := need 8 _ 29 rfl rfl (by kernel_rfl)
          have e30 : a.eval (.tmp 30) = .bool o := need 9 _ 30 rfl rfl (by kernel_rfl)
          obtain ⟨A6, c6, hx6, hc6, hC6⟩ := r26.reads
          subst hx6
          refine Reg.wp_call (f := 70) (args := #[.slice A6 (L ++ MWkb.nm px 8 o).length c6, .int .u64 (MWkb.u64 py), .int .i64 8, .bool o]) (by simp only [execOp, e26, e29, e30, Reg.eval_const, resolve, invoke, List.map_toArray, List.map_cons, List.map_nil]; go_simp) ?_
          refine (HPU2.out W A6 c6 hC6 hc6).mono ?_
          rintro e W' ⟨v, rfl, hr, hb⟩; exact ⟨v, rfl, v, rfl, hb, hr.lower hW.size⟩
        | 11, hoi =>
          simp only [List.getElem?_toArray, List.getElem?_cons_succ, List.getElem?_cons_zero, Option.some.injEq] at hoi
          subst hoi
          refine Reg.ob_plain rfl ?_
          have r31 := need 10 _ 31 rfl rfl (by kernel_rfl)
          simp only at r31
          obtain ⟨x31, e31⟩ : ∃ x, a.eval (.tmp 31) = x := ⟨_, rfl⟩
          rw [← Reg.eval_tmp, e31] at r31
          refine Reg.wp_val (W' := W) (v := _) (by simp only [execOp, e31, Reg.eval_const]; rfl) ⟨_, rfl, Bel.refl W, r31⟩
        | n + 12, hoi => simp at hoi
      · intro a w9 hW hsize hdef got same did
        have ha := Reg.act_of [21, 22, 23, 24, 25, 26, 27, 28, 29, 30, 31, 0] hsize hdef same (by kernel_rfl)
        simp only [List.foldl_cons, List.foldl_nil] at ha
        generalize a.tmps.getD 21 undef = y21 at ha
        generalize a.tmps.getD 22 undef = y22 at ha
        generalize a.tmps.getD 23 undef = y23 at ha
        generalize a.tmps.getD 24 undef = y24 at ha
        generalize a.tmps.getD 25 undef = y25 at ha
        generalize a.tmps.getD 26 undef = y26 at ha
        generalize a.tmps.getD 27 undef = y27 at ha
        generalize a.tmps.getD 28 undef = y28 at ha
        generalize a.tmps.getD 29 undef = y29 at ha
        generalize a.tmps.getD 30 undef = y30 at ha
        generalize a.tmps.getD 31 undef = y31 at ha
        have k0 := got 11 _ 0 rfl rfl
        simp only at k0
        generalize a.tmps.getD 0 undef = y0 at ha k0
        clear got same hsize hdef did
        subst ha
        simp only [List.setIfInBounds_toArray, List.set_cons_zero, List.set_cons_succ]
        have HB9 := Lib.hid (bthen HBk.out (bthen HB5.out hW))
        have HR9 := Lib.hid (k0.lower (w0 := w) (bthen HBk.out HB5.out).size)
        clear hW k0
        go_wp2
        go_roundw
        case rel => exact ⟨k + 1, by go_num, by have := HLT.out; omega, Lib.hid (by rw [HTK.out, ← List.append_assoc, ← List.append_assoc, List.append_assoc l, HLE.out]; show RB w w9 y0 (L ++ (MWkb.nm px 8 o ++ MWkb.nm py 8 o)); rw [← List.append_assoc]; exact HR9.out), HB9⟩
        case measure => (have := HLT.out; simp [intOf] <;> omega)
    · have : k = pts.length := by omega
      subst this
      clear hlt hk
      go_wp2
      go_ret
      exact ⟨_, rfl, by have h9 := HRk.out; rw [List.take_length] at h9; exact h9, HBk.out⟩

end Go.Proofs.YtfknhpgelleenaaDoor.K
