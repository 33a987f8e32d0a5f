/- A number behind the bytes of wkb's writer. -/
import Derived.Test.YtfknhpgelleenaaDoorKB
import Derived.Handy
import Derived.Test.YtfknhpgelleenaaDoorKM
import Derived.Test.YtfknhpgelleenaaDoorMWkb
import Derived.Test.YtfknhpgelleenaaDoorKO
import Derived.Test.YtfknhpgelleenaaDoorWEachR
namespace Go.Proofs.YtfknhpgelleenaaDoor.K
open Go Go.RowKit Go.Proofs.YtfknhpgelleenaaDoorW.PrintWords Go.Proofs.YtfknhpgelleenaaDoorW.PrintLast Go.Proofs.YtfknhpgelleenaaDoorW.PrintMore
set_option linter.unusedVariables false
set_option linter.unusedSimpArgs false
theorem RB.set {w0 W : World} {v : Value} {l : List Int} (h : RB w0 W v l) {g i : Nat} (hg : some g ≠ v.ownBlock) (u : Value) : RB w0 (W.setCell ⟨g, i, none⟩ u) v l :=
  Kd.R_mono (Kd.R_far (p := ⟨g, i, none⟩) (Kd.R_tight rfl h) (fun k hk e => hg (by rw [← hk]; exact congrArg some e.symm)) u) (fun k hk => trivial)
theorem RB.own_lt {w0 W : World} {v : Value} {l : List Int} (h : RB w0 W v l) : ∀ q, v.ownBlock = some q → w0.heap.size ≤ q ∧ q < W.heap.size := by
  obtain ⟨_, inner, hown, _⟩ := h
  exact hown.lt
theorem wgrown_set {W0 W : World} {g i : Nat} (h : Below W0.heap.size W0 W) (u : Value) : W0.grownBy (W.setCell ⟨g, i, none⟩ u) (some g) :=
  ⟨h.os, h.tape, h.output, by simpa using h.size, fun j hj hn => (Below.heap_setCell W ⟨g, i, none⟩ u j (fun e => hn (by rw [e]))).trans (h.block j hj)⟩
theorem wgrown_bel {W0 W W' : World} {g : Nat} (h : W0.grownBy W (some g)) (hb : Bel W W') : W0.grownBy W' (some g) :=
  World.grownBy.trans h ⟨hb.os, hb.tape, hb.output, hb.size, fun j hj _ => hb.block j hj⟩
set_option maxHeartbeats 2000000 in
set_option maxRecDepth 100000 in
/-- A number behind the writer's bytes. -/
theorem num0_calls (g : Nat) (o : Bool) (A : Option Addr) (c : Nat) (l : List Int) (n size : Int) (W0 : World) (hG : Blk W0 g #[.slice A l.length c, .bool o] 92) (hC : CB W0 A l) (hc : l.length ≤ c) (hl : l.length + 9 < 140737488355328) :
    Calls Tryd.prog 83 #[.pointer (some ⟨g, 0, none⟩), .int .i64 n, .int .i64 size] W0 fun e W' => e = .returned (.tuple #[]) ∧ Hid (∃ u, RB W0 W' u (l ++ MWkb.nm n size o) ∧ Blk W' g #[u, .bool o] 92 ∧ W0.grownBy W' (some g)) := by
  have HG := Lib.hid hG
  have HGL := Lib.hid (Blk.lt hG)
  have HPUT : Hid (∀ W, Below W0.heap.size W0 W → Calls Tryd.prog 68 #[.slice A l.length c, .int .u64 (MWkb.u64 n), .int .i64 size, .bool o] W fun e w' => ∃ v, e = .returned v ∧ RB W w' v (l ++ MWkb.nm n size o) ∧ Below W.heap.size W w') := Lib.hid (fun W h => octet_Put_calls A c l (MWkb.u64 n) size o W (hC.below h) hc hl (MWkb.u64_in n).1 (MWkb.u64_in n).2)
  have HGN : Hid (∀ {W : World} {l' : List Int} (v : Value), RB W0 W v l' → v.ownBlock = some g → False) := Lib.hid (fun v h e => by have := (h.own_lt g e).1; have := HGL.out; omega)
  have HU : Hid (IntKind.u64.wrap n = MWkb.u64 n) := Lib.hid (by rw [IntKind.wrap_u64]; rfl)
  clear hG hC hc hl
  go_enter Tryd.func83, Tryd.ntmps83
  refine Reg.region_gen (P := Tryd.prog) (Ext := fun i W W' => i ≠ 15 → Bel W W') (R := fun i v W => match i with
      | 0 => v = .pointer (some ⟨g, 0, none⟩)
      | 1 => v = .pointer (some ⟨g, 0, none⟩)
      | 2 => v = .pointer (some ⟨g, 0, none⟩)
      | 3 => v = .pointer (some ⟨g, 0, none⟩)
      | 4 => v = .slice A l.length c
      | 5 => v = .int .i64 n
      | 6 => v = .int .u64 (MWkb.u64 n)
      | 7 => v = .int .i64 size
      | 8 => v = .pointer (some ⟨g, 0, none⟩)
      | 9 => v = .pointer (some ⟨g, 0, none⟩)
      | 10 => v = .pointer (some ⟨g, 1, none⟩)
      | 11 => v = .bool o
      | 12 => RB W0 W v (l ++ MWkb.nm n size o)
      | 13 => v = .pointer (some ⟨g, 0, none⟩)
      | 14 => v = .pointer (some ⟨g, 0, none⟩)
      | 15 => ∃ u, RB W0 W u (l ++ MWkb.nm n size o) ∧ Blk W g #[u, .bool o] 92 ∧ W0.grownBy W (some g)
      | _ => True) [(15, 12)] (fun m W => (m 15 = false ∧ Below W0.heap.size W0 W) ∨ (m 15 = true ∧ m 4 = true ∧ m 11 = true ∧ m 12 = true)) rfl (by kernel_rfl) (by kernel_rfl) (.inl ⟨rfl, Bel.drew W0⟩) (fun i W _ => Bel.refl W) (by intro i j v W W' hij hk hr hx h; by_cases e : i = 15; (subst e; split at h <;> first | exact h | exact absurd rfl hij | exact absurd hk (by decide) | exact (Bool.false_ne_true (hr.symm.trans (by kernel_rfl))).elim); (have hb := hx e; split at h <;> first | exact h | exact RB.below h hb | (obtain ⟨u, h1, h2, h3⟩ := h; exact ⟨u, h1.below hb, h2.bel hb, wgrown_bel h3 hb⟩))) ?_ ?_
  · intro i oi hoi a W m hW hmi hpre need old
    match i, hoi with
    | 0, hoi =>
      simp only [List.getElem?_toArray, List.getElem?_cons_succ, List.getElem?_cons_zero, Option.some.injEq] at hoi
      subst hoi
      refine Reg.ob2_plain rfl ?_
      have e0 : a.eval (.tmp 0) = .pointer (some ⟨g, 0, none⟩) := old 0 (by kernel_rfl)
      refine Reg.wp_val (W' := W) (v := _) (by simp only [execOp, e0, Reg.eval_const]; rfl) ⟨_, rfl, (fun _ => Bel.refl W), rfl, hW⟩
    | 1, hoi =>
      simp only [List.getElem?_toArray, List.getElem?_cons_succ, List.getElem?_cons_zero, Option.some.injEq] at hoi
      subst hoi
      refine Reg.ob2_plain rfl ?_
      have e0 : a.eval (.tmp 0) = .pointer (some ⟨g, 0, none⟩) := old 0 (by kernel_rfl)
      refine Reg.wp_val (W' := W) (v := _) (by simp only [execOp, e0, Reg.eval_const]; rfl) ⟨_, rfl, (fun _ => Bel.refl W), rfl, hW⟩
    | 2, hoi =>
      simp only [List.getElem?_toArray, List.getElem?_cons_succ, List.getElem?_cons_zero, Option.some.injEq] at hoi
      subst hoi
      refine Reg.ob2_plain rfl ?_
      have e7 : a.eval (.tmp 7) = .pointer (some ⟨g, 0, none⟩) := need 1 _ 7 rfl rfl (by kernel_rfl) (by kernel_rfl)
      refine Reg.wp_val (W' := W) (v := .pointer (some ⟨g, 0, none⟩)) (by simp only [execOp, e7, Reg.eval_const, resolve, invoke, builtin, List.map_toArray, List.map_cons, List.map_nil, Option.map_some, Option.map_none]; (first | rfl | go_simp | (go_simp; rfl))) ⟨_, rfl, (fun _ => Bel.refl W), rfl, hW⟩
    | 3, hoi =>
      simp only [List.getElem?_toArray, List.getElem?_cons_succ, List.getElem?_cons_zero, Option.some.injEq] at hoi
      subst hoi
      refine Reg.ob2_plain rfl ?_
      have e8 : a.eval (.tmp 8) = .pointer (some ⟨g, 0, none⟩) := need 2 _ 8 rfl rfl (by kernel_rfl) (by kernel_rfl)
      refine Reg.wp_val (W' := W) (v := .pointer (some ⟨g, 0, none⟩)) (by simp only [execOp, e8, Reg.eval_const, resolve, invoke, builtin, List.map_toArray, List.map_cons, List.map_nil, Option.map_some, Option.map_none]; (first | rfl | go_simp | (go_simp; rfl))) ⟨_, rfl, (fun _ => Bel.refl W), rfl, hW⟩
    | 4, hoi =>
      simp only [List.getElem?_toArray, List.getElem?_cons_succ, List.getElem?_cons_zero, Option.some.injEq] at hoi
      subst hoi
      refine Reg.ob2_plain rfl ?_
      have e9 : a.eval (.tmp 9) = .pointer (some ⟨g, 0, none⟩) := need 3 _ 9 rfl rfl (by kernel_rfl) (by kernel_rfl)
      have hw := (hW.resolve_right (fun h => Bool.false_ne_true (hmi.symm.trans h.2.1)))
      have c0 : W.cell? ⟨g, 0, none⟩ = some (.slice A l.length c) := Blk.cell (Blk.bel HG.out hw.2) 0 rfl
      refine Reg.wp_val (W' := W) (v := .slice A l.length c) (by simp only [execOp, e9, Reg.eval_const, resolve, invoke, builtin, List.map_toArray, List.map_cons, List.map_nil, Option.map_some, Option.map_none]; (first | rfl | go_simp | (go_simp; rfl))) ⟨_, rfl, (fun _ => Bel.refl W), rfl, .inl hw⟩
    | 5, hoi =>
      simp only [List.getElem?_toArray, List.getElem?_cons_succ, List.getElem?_cons_zero, Option.some.injEq] at hoi
      subst hoi
      refine Reg.ob2_plain rfl ?_
      have e1 : a.eval (.tmp 1) = .int .i64 n := old 1 (by kernel_rfl)
      refine Reg.wp_val (W' := W) (v := _) (by simp only [execOp, e1, Reg.eval_const]; rfl) ⟨_, rfl, (fun _ => Bel.refl W), rfl, hW⟩
    | 6, hoi =>
      simp only [List.getElem?_toArray, List.getElem?_cons_succ, List.getElem?_cons_zero, Option.some.injEq] at hoi
      subst hoi
      refine Reg.ob2_plain rfl ?_
      have e11 : a.eval (.tmp 11) = .int .i64 n := need 5 _ 11 rfl rfl (by kernel_rfl) (by kernel_rfl)
      have hx := HU.out
      refine Reg.wp_val (W' := W) (v := .int .u64 (MWkb.u64 n)) (by simp only [execOp, e11, Reg.eval_const, resolve, invoke, builtin, List.map_toArray, List.map_cons, List.map_nil, Option.map_some, Option.map_none]; (first | rfl | go_simp | (go_simp; rfl))) ⟨_, rfl, (fun _ => Bel.refl W), rfl, hW⟩
    | 7, hoi =>
      simp only [List.getElem?_toArray, List.getElem?_cons_succ, List.getElem?_cons_zero, Option.some.injEq] at hoi
      subst hoi
      refine Reg.ob2_plain rfl ?_
      have e2 : a.eval (.tmp 2) = .int .i64 size := old 2 (by kernel_rfl)
      refine Reg.wp_val (W' := W) (v := _) (by simp only [execOp, e2, Reg.eval_const]; rfl) ⟨_, rfl, (fun _ => Bel.refl W), rfl, hW⟩
    | 8, hoi =>
      simp only [List.getElem?_toArray, List.getElem?_cons_succ, List.getElem?_cons_zero, Option.some.injEq] at hoi
      subst hoi
      refine Reg.ob2_plain rfl ?_
      have e0 : a.eval (.tmp 0) = .pointer (some ⟨g, 0, none⟩) := old 0 (by kernel_rfl)
      refine Reg.wp_val (W' := W) (v := _) (by simp only [execOp, e0, Reg.eval_const]; rfl) ⟨_, rfl, (fun _ => Bel.refl W), rfl, hW⟩
    | 9, hoi =>
      simp only [List.getElem?_toArray, List.getElem?_cons_succ, List.getElem?_cons_zero, Option.some.injEq] at hoi
      subst hoi
      refine Reg.ob2_plain rfl ?_
      have e14 : a.eval (.tmp 14) = .pointer (some ⟨g, 0, none⟩) := need 8 _ 14 rfl rfl (by kernel_rfl) (by kernel_rfl)
      refine Reg.wp_val (W' := W) (v := .pointer (some ⟨g, 0, none⟩)) (by simp only [execOp, e14, Reg.eval_const, resolve, invoke, builtin, List.map_toArray, List.map_cons, List.map_nil, Option.map_some, Option.map_none]; (first | rfl | go_simp | (go_simp; rfl))) ⟨_, rfl, (fun _ => Bel.refl W), rfl, hW⟩
    | 10, hoi =>
      simp only [List.getElem?_toArray, List.getElem?_cons_succ, List.getElem?_cons_zero, Option.some.injEq] at hoi
      subst hoi
      refine Reg.ob2_plain rfl ?_
      have e15 : a.eval (.tmp 15) = .pointer (some ⟨g, 0, none⟩) := need 9 _ 15 rfl rfl (by kernel_rfl) (by kernel_rfl)
      refine Reg.wp_val (W' := W) (v := .pointer (some ⟨g, 1, none⟩)) (by simp only [execOp, e15, Reg.eval_const, resolve, invoke, builtin, List.map_toArray, List.map_cons, List.map_nil, Option.map_some, Option.map_none]; (first | rfl | go_simp | (go_simp; rfl))) ⟨_, rfl, (fun _ => Bel.refl W), rfl, hW⟩
    | 11, hoi =>
      simp only [List.getElem?_toArray, List.getElem?_cons_succ, List.getElem?_cons_zero, Option.some.injEq] at hoi
      subst hoi
      refine Reg.ob2_plain rfl ?_
      have e16 : a.eval (.tmp 16) = .pointer (some ⟨g, 1, none⟩) := need 10 _ 16 rfl rfl (by kernel_rfl) (by kernel_rfl)
      have hw := (hW.resolve_right (fun h => Bool.false_ne_true (hmi.symm.trans h.2.2.1)))
      have c0 : W.cell? ⟨g, 1, none⟩ = some (.bool o) := Blk.cell (Blk.bel HG.out hw.2) 1 rfl
      refine Reg.wp_val (W' := W) (v := .bool o) (by simp only [execOp, e16, Reg.eval_const, resolve, invoke, builtin, List.map_toArray, List.map_cons, List.map_nil, Option.map_some, Option.map_none]; (first | rfl | go_simp | (go_simp; rfl))) ⟨_, rfl, (fun _ => Bel.refl W), rfl, .inl hw⟩
    | 12, hoi =>
      simp only [List.getElem?_toArray, List.getElem?_cons_succ, List.getElem?_cons_zero, Option.some.injEq] at hoi
      subst hoi
      refine Reg.ob2_plain rfl ?_
      have e10 : a.eval (.tmp 10) = .slice A l.length c := need 4 _ 10 rfl rfl (by kernel_rfl) (by kernel_rfl)
      have e12 : a.eval (.tmp 12) = .int .u64 (MWkb.u64 n) := need 6 _ 12 rfl rfl (by kernel_rfl) (by kernel_rfl)
      have e13 : a.eval (.tmp 13) = .int .i64 size := need 7 _ 13 rfl rfl (by kernel_rfl) (by kernel_rfl)
      have e17 : a.eval (.tmp 17) = .bool o := need 11 _ 17 rfl rfl (by kernel_rfl) (by kernel_rfl)
      have hw := (hW.resolve_right (fun h => Bool.false_ne_true (hmi.symm.trans h.2.2.2)))
      refine Reg.wp_call (f := 68) (args := #[.slice A l.length c, .int .u64 (MWkb.u64 n), .int .i64 size, .bool o]) (by simp only [execOp, e10, e12, e13, e17, Reg.eval_const, resolve, invoke, List.map_toArray, List.map_cons, List.map_nil]; go_simp) ?_
      refine (HPUT.out W hw.2).mono ?_
      rintro e W' ⟨v, rfl, hr, hb⟩; exact ⟨v, rfl, v, rfl, fun _ => hb, hr.lower hw.2.size, .inl ⟨hw.1, bthen hw.2 hb⟩⟩
    | 13, hoi =>
      simp only [List.getElem?_toArray, List.getElem?_cons_succ, List.getElem?_cons_zero, Option.some.injEq] at hoi
      subst hoi
      refine Reg.ob2_plain rfl ?_
      have e6 : a.eval (.tmp 6) = .pointer (some ⟨g, 0, none⟩) := need 0 _ 6 rfl rfl (by kernel_rfl) (by kernel_rfl)
      refine Reg.wp_val (W' := W) (v := .pointer (some ⟨g, 0, none⟩)) (by simp only [execOp, e6, Reg.eval_const, resolve, invoke, builtin, List.map_toArray, List.map_cons, List.map_nil, Option.map_some, Option.map_none]; (first | rfl | go_simp | (go_simp; rfl))) ⟨_, rfl, (fun _ => Bel.refl W), rfl, hW⟩
    | 14, hoi =>
      simp only [List.getElem?_toArray, List.getElem?_cons_succ, List.getElem?_cons_zero, Option.some.injEq] at hoi
      subst hoi
      refine Reg.ob2_plain rfl ?_
      have e19 : a.eval (.tmp 19) = .pointer (some ⟨g, 0, none⟩) := need 13 _ 19 rfl rfl (by kernel_rfl) (by kernel_rfl)
      refine Reg.wp_val (W' := W) (v := .pointer (some ⟨g, 0, none⟩)) (by simp only [execOp, e19, Reg.eval_const, resolve, invoke, builtin, List.map_toArray, List.map_cons, List.map_nil, Option.map_some, Option.map_none]; (first | rfl | go_simp | (go_simp; rfl))) ⟨_, rfl, (fun _ => Bel.refl W), rfl, hW⟩
    | 15, hoi =>
      simp only [List.getElem?_toArray, List.getElem?_cons_succ, List.getElem?_cons_zero, Option.some.injEq] at hoi
      subst hoi
      refine Reg.ob2_plain rfl ?_
      have e20 : a.eval (.tmp 20) = .pointer (some ⟨g, 0, none⟩) := need 14 _ 20 rfl rfl (by kernel_rfl) (by kernel_rfl)
      have r18 := need 12 _ 18 rfl rfl (by kernel_rfl) (by kernel_rfl)
      simp only at r18
      obtain ⟨x18, e18⟩ : ∃ x, a.eval (.tmp 18) = x := ⟨_, rfl⟩
      rw [← Reg.eval_tmp, e18] at r18
      have hw := (hW.resolve_right (fun h => Bool.false_ne_true (hmi.symm.trans h.1)))
      obtain ⟨A8, c8, hx8, -, -⟩ := id r18.reads
      obtain ⟨n8, hn8⟩ : ∃ k, (l ++ MWkb.nm n size o).length = k := ⟨_, rfl⟩
      rw [hn8] at hx8
      clear hn8
      subst hx8
      have G9 := Blk.bel HG.out hw.2
      have c0 : W.cell? ⟨g, 0, none⟩ = some (.slice A l.length c) := Blk.cell G9 0 rfl
      have f0 := G9.froz 0
      refine Reg.wp_skip (W' := W.setCell ⟨g, 0, none⟩ (.slice A8 n8 c8)) (by simp only [execOp, e20, e18, Reg.eval_const]; (first | rfl | go_simp | (go_simp; rfl))) ⟨_, rfl, (fun h => absurd rfl h), ⟨_, r18.set (fun e => HGN.out _ r18 e.symm) _, G9.set 0 _, wgrown_set hw.2 _⟩, .inr ⟨rfl, hpre 4 (by kernel_rfl), hpre 11 (by kernel_rfl), hpre 12 (by kernel_rfl)⟩⟩
    | n + 16, hoi => simp at hoi
  · intro a w9 m hW hall hsize hdef got same did
    have ha := Reg.act_of [6, 7, 8, 9, 10, 11, 12, 13, 14, 15, 16, 17, 18, 19, 20] hsize hdef same (by kernel_rfl)
    simp only [List.foldl_cons, List.foldl_nil] at ha
    generalize a.tmps.getD 6 undef = y6 at ha
    generalize a.tmps.getD 7 undef = y7 at ha
    generalize a.tmps.getD 8 undef = y8 at ha
    generalize a.tmps.getD 9 undef = y9 at ha
    generalize a.tmps.getD 10 undef = y10 at ha
    generalize a.tmps.getD 11 undef = y11 at ha
    generalize a.tmps.getD 12 undef = y12 at ha
    generalize a.tmps.getD 13 undef = y13 at ha
    generalize a.tmps.getD 14 undef = y14 at ha
    generalize a.tmps.getD 15 undef = y15 at ha
    generalize a.tmps.getD 16 undef = y16 at ha
    generalize a.tmps.getD 17 undef = y17 at ha
    generalize a.tmps.getD 18 undef = y18 at ha
    generalize a.tmps.getD 19 undef = y19 at ha
    generalize a.tmps.getD 20 undef = y20 at ha
    clear got same hsize hdef
    subst ha
    simp only [List.setIfInBounds_toArray, List.set_cons_zero, List.set_cons_succ]
    obtain ⟨v, h9⟩ := did 15 _ rfl rfl rfl
    simp only at h9
    have H9 := Lib.hid h9
    clear h9
    go_end0
    exact ⟨by first | rfl | simp, H9.out⟩
theorem Kr.grown {g t : Nat} {W0 W : World} {u b' : Value} {l : List Int} (h0 : 0 < l.length) (hu : RB W0 W u l) (hb : Blk W g #[u, b'] t) (h : W0.grownBy W (some g)) : Kr g W0 W :=
  ⟨h.size, fun _ => ⟨by
    obtain ⟨q, cap, rfl, _, _⟩ := hu.form h0
    unfold rowB
    rw [Blk.cell hb 0 rfl]
    exact .inr ⟨q, rfl, (hu.own_lt q rfl).1, (hu.own_lt q rfl).2⟩, fun j hj _ cs t' r hc => (h.block j (Array.getElem?_eq_some_iff.1 hc).1 (fun e => hj (Option.some.inj e))).trans hc⟩⟩
/-- A writer's state: its block, its order, its bytes. -/
def St (w0 : World) (g : Nat) (o : Bool) (l : List Int) (W : World) : Prop := ∃ v, Blk W g #[v, .bool o] 92 ∧ RB w0 W v l ∧ Below w0.heap.size w0 W ∧ w0.heap.size ≤ g
theorem St.row {w0 W : World} {g : Nat} {o : Bool} {l : List Int} (h : St w0 g o l W) : RowOk w0.heap.size g W := by
  obtain ⟨v, h1, h2, h3, h4⟩ := h
  refine ⟨h4, Blk.lt h1, fun q hq => ?_⟩
  unfold rowB at hq
  rw [Blk.cell h1 0 rfl] at hq
  exact h2.own_lt q hq
theorem St.bel {w0 W W' : World} {g : Nat} {o : Bool} {l : List Int} (h : St w0 g o l W) (hb : Bel W W') : St w0 g o l W' := by
  obtain ⟨v, h1, h2, h3, h4⟩ := h
  exact ⟨v, h1.bel hb, h2.below hb, bthen h3 hb, h4⟩
theorem St.order {w0 W : World} {g : Nat} {o : Bool} {l : List Int} (h : St w0 g o l W) : W.cell? ⟨g, 1, none⟩ = some (.bool o) := by
  obtain ⟨v, h1, _⟩ := h
  exact Blk.cell h1 1 rfl
/-- A number behind the writer's bytes. -/
theorem num_calls (w0 : World) (g : Nat) (o : Bool) (l : List Int) (n size : Int) (W : World) (hs : St w0 g o l W) (h4 : size = 4 ∨ size = 8) (hl : l.length + 9 < 140737488355328) :
    Calls Tryd.prog 83 #[.pointer (some ⟨g, 0, none⟩), .int .i64 n, .int .i64 size] W fun e W' => e = .returned (.tuple #[]) ∧ Hid (St w0 g o (l ++ MWkb.nm n size o) W' ∧ Kr g W W') := by
  obtain ⟨v, h1, h2, h3, hg⟩ := hs
  obtain ⟨A, c, rfl, hc, hC⟩ := id h2.reads
  refine (num0_calls g o A c l n size W h1 hC hc hl).mono ?_
  rintro e W' ⟨rfl, ⟨u, k1, k2, k3⟩⟩
  have hlen : 0 < (l ++ MWkb.nm n size o).length := by
    rw [List.length_append]
    rcases h4 with rfl | rfl
    · rw [MWkb.nm4]; omega
    · rw [MWkb.nm8]; omega
  exact ⟨rfl, ⟨⟨u, k2, k1.lower h3.size, h3.grown k3 h3.size (fun k e => by cases e; exact hg), hg⟩, Kr.grown hlen k1 k2 k3⟩⟩

end Go.Proofs.YtfknhpgelleenaaDoor.K
