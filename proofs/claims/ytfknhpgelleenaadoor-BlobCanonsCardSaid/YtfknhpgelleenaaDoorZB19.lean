/- What a claim leans on, part 19, cut by a program out of the texts KWW. -/
import Derived.Handy
import Derived.Test.YtfknhpgelleenaaDoorZB3
import Derived.Test.YtfknhpgelleenaaDoorZB4
import Derived.Test.YtfknhpgelleenaaDoorZB5
import Derived.Test.YtfknhpgelleenaaDoorZB12
import Derived.Test.YtfknhpgelleenaaDoorZB13
import Derived.Test.YtfknhpgelleenaaDoorZB15
import Derived.Test.YtfknhpgelleenaaDoorZB18
section
namespace Go.Proofs.YtfknhpgelleenaaDoor.K
open Go Go.RowKit Go.Proofs.YtfknhpgelleenaaDoorW.PrintWords Go.Proofs.YtfknhpgelleenaaDoorW.PrintLast Go.Proofs.YtfknhpgelleenaaDoorW.PrintMore
set_option linter.unusedVariables false
set_option linter.unusedSimpArgs false
theorem RB.set {w0 W : World} {v : Value} {l : List Int} (h : RB w0 W v l) {g i : Nat} (hg : some g ≠ v.ownBlock) (u : Value) : RB w0 (W.setCell ⟨g, i, none⟩ u) v l :=
  Kd.R_mono (Kd.R_far (p := ⟨g, i, none⟩) (Kd.R_tight rfl h) (fun k hk e => hg (by rw [← hk]; exact congrArg some e.symm)) u) (fun k hk => trivial)
theorem RB.own_lt {w0 W : World} {v : Value} {l : List Int} (h : RB w0 W v l) : ∀ q, v.ownBlock = some q → w0.heap.size ≤ q ∧ q < W.heap.size := by
  obtain ⟨_, inner, hown, _⟩ := h
  exact hown.lt
theorem wgrown_set {W0 W : World} {g i : Nat} (h : Below W0.heap.size W0 W) (u : Value) : W0.grownBy (W.setCell ⟨g, i, none⟩ u) (some g) :=
  ⟨h.os, h.tape, h.output, by simpa using h.size, fun j hj hn => (Below.heap_setCell W ⟨g, i, none⟩ u j (fun e => hn (by rw [e]))).trans (h.block j hj)⟩
theorem wgrown_bel {W0 W W' : World} {g : Nat} (h : W0.grownBy W (some g)) (hb : Bel W W') : W0.grownBy W' (some g) :=
  World.grownBy.trans h ⟨hb.os, hb.tape, hb.output, hb.size, fun j hj _ => hb.block j hj⟩
set_option maxHeartbeats 2000000 in
set_option maxRecDepth 100000 in
/-- A number behind the writer's bytes. -/
theorem num0_calls (g : Nat) (o : Bool) (A : Option Addr) (c : Nat) (l : List Int) (n size : Int) (W0 : World) (hG : Blk W0 g #[.slice A l.length c, .bool o] 92) (hC : CB W0 A l) (hc : l.length ≤ c) (hl : l.length + 9 < 140737488355328) :
    Calls Tryd.prog 83 #[.pointer (some ⟨g, 0, none⟩), .int .i64 n, .int .i64 size] W0 fun e W' => e = .returned (.tuple #[]) ∧ Hid (∃ u, RB W0 W' u (l ++ MWkb.nm n size o) ∧ Blk W' g #[u, .bool o] 92 ∧ W0.grownBy W' (some g)) := by
  have HG := Lib.hid hG
  have HGL := Lib.hid (Blk.lt hG)
  have HPUT : Hid (∀ W, Below W0.heap.size W0 W → Calls Tryd.prog 68 #[.slice A l.length c, .int .u64 (MWkb.u64 n), .int .i64 size, .bool o] W fun e w' => ∃ v, e = .returned v ∧ RB W w' v (l ++ MWkb.nm n size o) ∧ Below W.heap.size W w') := Lib.hid (fun W h => octet_Put_calls A c l (MWkb.u64 n) size o W (hC.below h) hc hl (MWkb.u64_in n).1 (MWkb.u64_in n).2)
  have HGN : Hid (∀ {W : World} {l' : List Int} (v : Value), RB W0 W v l' → v.ownBlock = some g → False) := Lib.hid (fun v h e => by have := (h.own_lt g e).1; have := HGL.out; omega)
  have HU : Hid (IntKind.u64.wrap n = MWkb.u64 n) := Lib.hid (by rw [IntKind.wrap_u64]; rfl)
  clear hG hC hc hl
  go_enter Tryd.func83, Tryd.ntmps83
  refine Reg.region_gen (P := Tryd.prog) (Ext := fun i W W' => i ≠ 15 → Bel W W') (R := fun i v W => match i with
      | 0 => v = .pointer (some ⟨g, 0, none⟩)
      | 1 => v = .pointer (some ⟨g, 0, none⟩)
      | 2 => v = .pointer (some ⟨g, 0, none⟩)
      | 3 => v = .pointer (some ⟨g, 0, none⟩)
      | 4 => v = .slice A l.length c
      | 5 => v = .int .i64 n
      | 6 => v = .int .u64 (MWkb.u64 n)
      | 7 => v = .int .i64 size
      | 8 => v = .pointer (some ⟨g, 0, none⟩)
      | 9 => v = .pointer (some ⟨g, 0, none⟩)
      | 10 => v = .pointer (some ⟨g, 1, none⟩)
      | 11 => v = .bool o
      | 12 => RB W0 W v (l ++ MWkb.nm n size o)
      | 13 => v = .pointer (some ⟨g, 0, none⟩)
      | 14 => v = .pointer (some ⟨g, 0, none⟩)
      | 15 => ∃ u, RB W0 W u (l ++ MWkb.nm n size o) ∧ Blk W g #[u, .bool o] 92 ∧ W0.grownBy W (some g)
      | _ => True) [(15, 12)] (fun m W => (m 15 = false ∧ Below W0.heap.size W0 W) ∨ (m 15 = true ∧ m 4 = true ∧ m 11 = true ∧ m 12 = true)) rfl (by kernel_rfl) (by kernel_rfl) (.inl ⟨rfl, Bel.drew W0⟩) (fun i W _ => Bel.refl W) (by intro i j v W W' hij hk hr hx h; by_cases e : i = 15; (subst e; split at h <;> first | exact h | exact absurd rfl hij | exact absurd hk (by decide) | exact (Bool.false_ne_true (hr.symm.trans (by kernel_rfl))).elim); (have hb := hx e; split at h <;> first | exact h | exact RB.below h hb | (obtain ⟨u, h1, h2, h3⟩ := h; exact ⟨u, h1.below hb, h2.bel hb, wgrown_bel h3 hb⟩))) ?_ ?_
  · intro i oi hoi a W m hW hmi hpre need old
    match i, hoi with
    | 0, hoi =>
      simp only [List.getElem?_toArray, List.getElem?_cons_succ, List.getElem?_cons_zero, Option.some.injEq] at hoi
      subst hoi
      refine Reg.ob2_plain rfl ?_
      have e0 : a.eval (.tmp 0) = .pointer (some ⟨g, 0, none⟩) := old 0 (by kernel_rfl)
      refine Reg.wp_val (W' := W) (v := _) (by simp only [execOp, e0, Reg.eval_const]; rfl) ⟨_, rfl, (fun _ => Bel.refl W), rfl, hW⟩
    | 1, hoi =>
      simp only [List.getElem?_toArray, List.getElem?_cons_succ, List.getElem?_cons_zero, Option.some.injEq] at hoi
      subst hoi
      refine Reg.ob2_plain rfl ?_
      have e0 : a.eval (.tmp 0) = .pointer (some ⟨g, 0, none⟩) := old 0 (by kernel_rfl)
      refine Reg.wp_val (W' := W) (v := _) (by simp only [execOp, e0, Reg.eval_const]; rfl) ⟨_, rfl, (fun _ => Bel.refl W), rfl, hW⟩
    | 2, hoi =>
      simp only [List.getElem?_toArray, List.getElem?_cons_succ, List.getElem?_cons_zero, Option.some.injEq] at hoi
      subst hoi
      refine Reg.ob2_plain rfl ?_
      have e7 : a.eval (.tmp 7) = .pointer (some ⟨g, 0, none⟩) := need 1 _ 7 rfl rfl (by kernel_rfl) (by kernel_rfl)
      refine Reg.wp_val (W' := W) (v := .pointer (some ⟨g, 0, none⟩)) (by simp only [execOp, e7, Reg.eval_const, resolve, invoke, builtin, List.map_toArray, List.map_cons, List.map_nil, Option.map_some, Option.map_none]; (first | rfl | go_simp | (go_simp; rfl))) ⟨_, rfl, (fun _ => Bel.refl W), rfl, hW⟩
    | 3, hoi =>
      simp only [List.getElem?_toArray, List.getElem?_cons_succ, List.getElem?_cons_zero, Option.some.injEq] at hoi
      subst hoi
      refine Reg.ob2_plain rfl ?_
      have e8 : a.eval (.tmp 8) = .pointer (some ⟨g, 0, none⟩) := need 2 _ 8 rfl rfl (by kernel_rfl) (by kernel_rfl)
      refine Reg.wp_val (W' := W) (v := .pointer (some ⟨g, 0, none⟩)) (by simp only [execOp, e8, Reg.eval_const, resolve, invoke, builtin, List.map_toArray, List.map_cons, List.map_nil, Option.map_some, Option.map_none]; (first | rfl | go_simp | (go_simp; rfl))) ⟨_, rfl, (fun _ => Bel.refl W), rfl, hW⟩
    | 4, hoi =>
      simp only [List.getElem?_toArray, List.getElem?_cons_succ, List.getElem?_cons_zero, Option.some.injEq] at hoi
      subst hoi
      refine Reg.ob2_plain rfl ?_
      have e9 : a.eval (.tmp 9) = .pointer (some ⟨g, 0, none⟩) := need 3 _ 9 rfl rfl (by kernel_rfl) (by kernel_rfl)
      have hw := (hW.resolve_right (fun h => Bool.false_ne_true (hmi.symm.trans h.2.1)))
      have c0 : W.cell? ⟨g, 0, none⟩ = some (.slice A l.length c) := Blk.cell (Blk.bel HG.out hw.2) 0 rfl
      refine Reg.wp_val (W' := W) (v := .slice A l.length c) (by simp only [execOp, e9, Reg.eval_const, resolve, invoke, builtin, List.map_toArray, List.map_cons, List.map_nil, Option.map_some, Option.map_none]; (first | rfl | go_simp | (go_simp; rfl))) ⟨_, rfl, (fun _ => Bel.refl W), rfl, .inl hw⟩
    | 5, hoi =>
      simp only [List.getElem?_toArray, List.getElem?_cons_succ, List.getElem?_cons_zero, Option.some.injEq] at hoi
      subst hoi
      refine Reg.ob2_plain rfl ?_
      have e1 : a.eval (.tmp 1) = .int .i64 n := old 1 (by kernel_rfl)
      refine Reg.wp_val (W' := W) (v := _) (by simp only [execOp, e1, Reg.eval_const]; rfl) ⟨_, rfl, (fun _ => Bel.refl W), rfl, hW⟩
    | 6, hoi =>
      simp only [List.getElem?_toArray, List.getElem?_cons_succ, List.getElem?_cons_zero, Option.some.injEq] at hoi
      subst hoi
      refine Reg.ob2_plain rfl ?_
      have e11 : a.eval (.tmp 11) = .int .i64 n := need 5 _ 11 rfl rfl (by kernel_rfl) (by kernel_rfl)
      have hx := HU.out
      refine Reg.wp_val (W' := W) (v := .int .u64 (MWkb.u64 n)) (by simp only [execOp, e11, Reg.eval_const, resolve, invoke, builtin, List.map_toArray, List.map_cons, List.map_nil, Option.map_some, Option.map_none]; (first | rfl | go_simp | (go_simp; rfl))) ⟨_, rfl, (fun _ => Bel.refl W), rfl, hW⟩
    | 7, hoi =>
      simp only [List.getElem?_toArray, List.getElem?_cons_succ, List.getElem?_cons_zero, Option.some.injEq] at hoi
      subst hoi
      refine Reg.ob2_plain rfl ?_
      have e2 : a.eval (.tmp 2) = .int .i64 size := old 2 (by kernel_rfl)
      refine Reg.wp_val (W' := W) (v := _) (by simp only [execOp, e2, Reg.eval_const]; rfl) ⟨_, rfl, (fun _ => Bel.refl W), rfl, hW⟩
    | 8, hoi =>
      simp only [List.getElem?_toArray, List.getElem?_cons_succ, List.getElem?_cons_zero, Option.some.injEq] at hoi
      subst hoi
      refine Reg.ob2_plain rfl ?_
      have e0 : a.eval (.tmp 0) = .pointer (some ⟨g, 0, none⟩) := old 0 (by kernel_rfl)
      refine Reg.wp_val (W' := W) (v := _) (by simp only [execOp, e0, Reg.eval_const]; rfl) ⟨_, rfl, (fun _ => Bel.refl W), rfl, hW⟩
    | 9, hoi =>
      simp only [List.getElem?_toArray, List.getElem?_cons_succ, List.getElem?_cons_zero, Option.some.injEq] at hoi
      subst hoi
      refine Reg.ob2_plain rfl ?_
      have e14 : a.eval (.tmp 14) = .pointer (some ⟨g, 0, none⟩) := need 8 _ 14 rfl rfl (by kernel_rfl) (by kernel_rfl)
      refine Reg.wp_val (W' := W) (v := .pointer (some ⟨g, 0, none⟩)) (by simp only [execOp, e14, Reg.eval_const, resolve, invoke, builtin, List.map_toArray, List.map_cons, List.map_nil, Option.map_some, Option.map_none]; (first | rfl | go_simp | (go_simp; rfl))) ⟨_, rfl, (fun _ => Bel.refl W), rfl, hW⟩
    | 10, hoi =>
      simp only [List.getElem?_toArray, List.getElem?_cons_succ, List.getElem?_cons_zero, Option.some.injEq] at hoi
      subst hoi
      refine Reg.ob2_plain rfl ?_
      have e15 : a.eval (.tmp 15) = .pointer (some ⟨g, 0, none⟩) := need 9 _ 15 rfl rfl (by kernel_rfl) (by kernel_rfl)
      refine Reg.wp_val (W' := W) (v := .pointer (some ⟨g, 1, none⟩)) (by simp only [execOp, e15, Reg.eval_const, resolve, invoke, builtin, List.map_toArray, List.map_cons, List.map_nil, Option.map_some, Option.map_none]; (first | rfl | go_simp | (go_simp; rfl))) ⟨_, rfl, (fun _ => Bel.refl W), rfl, hW⟩
    | 11, hoi =>
      simp only [List.getElem?_toArray, List.getElem?_cons_succ, List.getElem?_cons_zero, Option.some.injEq] at hoi
      subst hoi
      refine Reg.ob2_plain rfl ?_
      have e16 : a.eval (.tmp 16) = .pointer (some ⟨g, 1, none⟩) := need 10 _ 16 rfl rfl (by kernel_rfl) (by kernel_rfl)
      have hw := (hW.resolve_right (fun h => Bool.false_ne_true (hmi.symm.trans h.2.2.1)))
      have c0 : W.cell? ⟨g, 1, none⟩ = some (.bool o) := Blk.cell (Blk.bel HG.out hw.2) 1 rfl
      refine Reg.wp_val (W' := W) (v := .bool o) (by simp only [execOp, e16, Reg.eval_const, resolve, invoke, builtin, List.map_toArray, List.map_cons, List.map_nil, Option.map_some, Option.map_none]; (first | rfl | go_simp | (go_simp; rfl))) ⟨_, rfl, (fun _ => Bel.refl W), rfl, .inl hw⟩
    | 12, hoi =>
      simp only [List.getElem?_toArray, List.getElem?_cons_succ, List.getElem?_cons_zero, Option.some.injEq] at hoi
      subst hoi
      refine Reg.ob2_plain rfl ?_
      have e10 : a.eval (.tmp 10) = .slice A l.length c := need 4 _ 10 rfl rfl (by kernel_rfl) (by kernel_rfl)
      have e12 : a.eval (.tmp 12) = .int .u64 (MWkb.u64 n) := need 6 _ 12 rfl rfl (by kernel_rfl) (by kernel_rfl)
      have e13 : a.eval (.tmp 13) = .int .i64 size := need 7 _ 13 rfl rfl (by kernel_rfl) (by kernel_rfl)
      have e17 : a.eval (.tmp 17) = .bool o := need 11 _ 17 rfl rfl (by kernel_rfl) (by kernel_rfl)
      have hw := (hW.resolve_right (fun h => Bool.false_ne_true (hmi.symm.trans h.2.2.2)))
      refine Reg.wp_call (f := 68) (args := #[.slice A l.length c, .int .u64 (MWkb.u64 n), .int .i64 size, .bool o]) (by simp only [execOp, e10, e12, e13, e17, Reg.eval_const, resolve, invoke, List.map_toArray, List.map_cons, List.map_nil]; go_simp) ?_
      refine (HPUT.out W hw.2).mono ?_
      rintro e W' ⟨v, rfl, hr, hb⟩; exact ⟨v, rfl, v, rfl, fun _ => hb, hr.lower hw.2.size, .inl ⟨hw.1, bthen hw.2 hb⟩⟩
    | 13, hoi =>
      simp only [List.getElem?_toArray, List.getElem?_cons_succ, List.getElem?_cons_zero, Option.some.injEq] at hoi
      subst hoi
      refine Reg.ob2_plain rfl ?_
      have e6 : a.eval (.tmp 6) = .pointer (some ⟨g, 0, none⟩) := need 0 _ 6 rfl rfl (by kernel_rfl) (by kernel_rfl)
      refine Reg.wp_val (W' := W) (v := .pointer (some ⟨g, 0, none⟩)) (by simp only [execOp, e6, Reg.eval_const, resolve, invoke, builtin, List.map_toArray, List.map_cons, List.map_nil, Option.map_some, Option.map_none]; (first | rfl | go_simp | (go_simp; rfl))) ⟨_, rfl, (fun _ => Bel.refl W), rfl, hW⟩
    | 14, hoi =>
      simp only [List.getElem?_toArray, List.getElem?_cons_succ, List.getElem?_cons_zero, Option.some.injEq] at hoi
      subst hoi
      refine Reg.ob2_plain rfl ?_
      have e19 : a.eval (.tmp 19) = .pointer (some ⟨g, 0, none⟩) := need 13 _ 19 rfl rfl (by kernel_rfl) (by kernel_rfl)
      refine Reg.wp_val (W' := W) (v := .pointer (some ⟨g, 0, none⟩)) (by simp only [execOp, e19, Reg.eval_const, resolve, invoke, builtin, List.map_toArray, List.map_cons, List.map_nil, Option.map_some, Option.map_none]; (first | rfl | go_simp | (go_simp; rfl))) ⟨_, rfl, (fun _ => Bel.refl W), rfl, hW⟩
    | 15, hoi =>
      simp only [List.getElem?_toArray, List.getElem?_cons_succ, List.getElem?_cons_zero, Option.some.injEq] at hoi
      subst hoi
      refine Reg.ob2_plain rfl ?_
      have e20 : a.eval (.tmp 20) = .pointer (some ⟨g, 0, none⟩) := need 14 _ 20 rfl rfl (by kernel_rfl) (by kernel_rfl)
      have r18 := need 12 _ 18 rfl rfl (by kernel_rfl) (by kernel_rfl)
      simp only at r18
      obtain ⟨x18, e18⟩ : ∃ x, a.eval (.tmp 18) = x := ⟨_, rfl⟩
      rw [← Reg.eval_tmp, e18] at r18
      have hw := (hW.resolve_right (fun h => Bool.false_ne_true (hmi.symm.trans h.1)))
      obtain ⟨A8, c8, hx8, -, -⟩ := id r18.reads
      obtain ⟨n8, hn8⟩ : ∃ k, (l ++ MWkb.nm n size o).length = k := ⟨_, rfl⟩
      rw [hn8] at hx8
      clear hn8
      subst hx8
      have G9 := Blk.bel HG.out hw.2
      have c0 : W.cell? ⟨g, 0, none⟩ = some (.slice A l.length c) := Blk.cell G9 0 rfl
      have f0 := G9.froz 0
      refine Reg.wp_skip (W' := W.setCell ⟨g, 0, none⟩ (.slice A8 n8 c8)) (by simp only [execOp, e20, e18, Reg.eval_const]; (first | rfl | go_simp | (go_simp; rfl))) ⟨_, rfl, (fun h => absurd rfl h), ⟨_, r18.set (fun e => HGN.out _ r18 e.symm) _, G9.set 0 _, wgrown_set hw.2 _⟩, .inr ⟨rfl, hpre 4 (by kernel_rfl), hpre 11 (by kernel_rfl), hpre 12 (by kernel_rfl)⟩⟩
    | n + 16, hoi => simp at hoi
  · intro a w9 m hW hall hsize hdef got same did
    have ha := Reg.act_of [6, 7, 8, 9, 10, 11, 12, 13, 14, 15, 16, 17, 18, 19, 20] hsize hdef same (by kernel_rfl)
    simp only [List.foldl_cons, List.foldl_nil] at ha
    generalize a.tmps.getD 6 undef = y6 at ha
    generalize a.tmps.getD 7 undef = y7 at ha
    generalize a.tmps.getD 8 undef = y8 at ha
    generalize a.tmps.getD 9 undef = y9 at ha
    generalize a.tmps.getD 10 undef = y10 at ha
    generalize a.tmps.getD 11 undef = y11 at ha
    generalize a.tmps.getD 12 undef = y12 at ha
    generalize a.tmps.getD 13 undef = y13 at ha
    generalize a.tmps.getD 14 undef = y14 at ha
    generalize a.tmps.getD 15 undef = y15 at ha
    generalize a.tmps.getD 16 undef = y16 at ha
    generalize a.tmps.getD 17 undef = y17 at ha
    generalize a.tmps.getD 18 undef = y18 at ha
    generalize a.tmps.getD 19 undef = y19 at ha
    generalize a.tmps.getD 20 undef = y20 at ha
    clear got same hsize hdef
    subst ha
    simp only [List.setIfInBounds_toArray, List.set_cons_zero, List.set_cons_succ]
    obtain ⟨v, h9⟩ := did 15 _ rfl rfl rfl
    simp only at h9
    have H9 := Lib.hid h9
    clear h9
    go_end0
    exact ⟨by first | rfl | simp, H9.out⟩
theorem Kr.grown {g t : Nat} {W0 W : World} {u b' : Value} {l : List Int} (h0 : 0 < l.length) (hu : RB W0 W u l) (hb : Blk W g #[u, b'] t) (h : W0.grownBy W (some g)) : Kr g W0 W :=
  ⟨h.size, fun _ => ⟨by
    obtain ⟨q, cap, rfl, _, _⟩ := hu.form h0
    unfold rowB
    rw [Blk.cell hb 0 rfl]
    exact .inr ⟨q, rfl, (hu.own_lt q rfl).1, (hu.own_lt q rfl).2⟩, fun j hj _ cs t' r hc => (h.block j (Array.getElem?_eq_some_iff.1 hc).1 (fun e => hj (Option.some.inj e))).trans hc⟩⟩
/-- A writer's state: its block, its order, its bytes. -/
def St (w0 : World) (g : Nat) (o : Bool) (l : List Int) (W : World) : Prop := ∃ v, Blk W g #[v, .bool o] 92 ∧ RB w0 W v l ∧ Below w0.heap.size w0 W ∧ w0.heap.size ≤ g
theorem St.row {w0 W : World} {g : Nat} {o : Bool} {l : List Int} (h : St w0 g o l W) : RowOk w0.heap.size g W := by
  obtain ⟨v, h1, h2, h3, h4⟩ := h
  refine ⟨h4, Blk.lt h1, fun q hq => ?_⟩
  unfold rowB at hq
  rw [Blk.cell h1 0 rfl] at hq
  exact h2.own_lt q hq
theorem St.bel {w0 W W' : World} {g : Nat} {o : Bool} {l : List Int} (h : St w0 g o l W) (hb : Bel W W') : St w0 g o l W' := by
  obtain ⟨v, h1, h2, h3, h4⟩ := h
  exact ⟨v, h1.bel hb, h2.below hb, bthen h3 hb, h4⟩
theorem St.order {w0 W : World} {g : Nat} {o : Bool} {l : List Int} (h : St w0 g o l W) : W.cell? ⟨g, 1, none⟩ = some (.bool o) := by
  obtain ⟨v, h1, _⟩ := h
  exact Blk.cell h1 1 rfl
/-- A number behind the writer's bytes. -/
theorem num_calls (w0 : World) (g : Nat) (o : Bool) (l : List Int) (n size : Int) (W : World) (hs : St w0 g o l W) (h4 : size = 4 ∨ size = 8) (hl : l.length + 9 < 140737488355328) :
    Calls Tryd.prog 83 #[.pointer (some ⟨g, 0, none⟩), .int .i64 n, .int .i64 size] W fun e W' => e = .returned (.tuple #[]) ∧ Hid (St w0 g o (l ++ MWkb.nm n size o) W' ∧ Kr g W W') := by
  obtain ⟨v, h1, h2, h3, hg⟩ := hs
  obtain ⟨A, c, rfl, hc, hC⟩ := id h2.reads
  refine (num0_calls g o A c l n size W h1 hC hc hl).mono ?_
  rintro e W' ⟨rfl, ⟨u, k1, k2, k3⟩⟩
  have hlen : 0 < (l ++ MWkb.nm n size o).length := by
    rw [List.length_append]
    rcases h4 with rfl | rfl
    · rw [MWkb.nm4]; omega
    · rw [MWkb.nm8]; omega
  exact ⟨rfl, ⟨⟨u, k2, k1.lower h3.size, h3.grown k3 h3.size (fun k e => by cases e; exact hg), hg⟩, Kr.grown hlen k1 k2 k3⟩⟩
end Go.Proofs.YtfknhpgelleenaaDoor.K
namespace Go.Proofs.YtfknhpgelleenaaDoor.K
open Go Go.RowKit Go.Proofs.YtfknhpgelleenaaDoorW.PrintWords Go.Proofs.YtfknhpgelleenaaDoorW.PrintLast Go.Proofs.YtfknhpgelleenaaDoorW.PrintMore
set_option linter.unusedVariables false
set_option linter.unusedSimpArgs false
/-- A block that no writing touches. -/
def Fr (g b : Nat) (W : World) : Prop := g < W.heap.size ∧ b ≠ g ∧ some b ≠ rowB g W ∧ b < W.heap.size
theorem Fr.kr {g b : Nat} {W W' : World} (h : Fr g b W) (hk : Kr g W W') : Fr g b W' := by
  obtain ⟨h1, h2, h3, h4⟩ := h
  have s := hk.1
  refine ⟨by omega, h2, fun e => ?_, by omega⟩
  rcases (hk.2 h1).1 with e1 | ⟨q, e1, h5, _⟩
  · exact h3 (e.trans e1)
  · rw [e1] at e
    injection e with e
    omega
theorem Fr.blk {g b t : Nat} {W W' : World} {cs : Array Value} (h : Fr g b W) (hk : Kr g W W') (hb : Blk W b cs t) : Blk W' b cs t := (hk.2 h.1).2 b h.2.1 h.2.2.1 cs t (0, 0) hb
theorem Fr.new {w0 W : World} {g : Nat} {o : Bool} {l : List Int} (h : St w0 g o l W) (obj : Obj) : Fr g W.heap.size (W.alloc obj) := by
  obtain ⟨h1, h2, h3⟩ := h.row
  have e : rowB g (W.alloc obj) = rowB g W := by unfold rowB; rw [((Bel.refl W).alloc (Nat.le_refl _) obj).cell (p := ⟨g, 0, none⟩) h2]
  refine ⟨by simp; omega, by omega, fun e' => ?_, by simp⟩
  rw [e] at e'
  have := (h3 _ e'.symm).2
  omega
theorem Fr.bel {g b : Nat} {W W' : World} (h : Fr g b W) (hb : Bel W W') : Fr g b W' := h.kr (Kr.bel hb)
set_option maxHeartbeats 1000000 in
set_option maxRecDepth 100000 in
/-- A point behind the writer's bytes. -/
theorem point_calls (w0 : World) (g : Nat) (o : Bool) (l : List Int) (x y : Int) (W : World) (hs : St w0 g o l W) (hl : l.length + 25 < 140737488355328) :
    Calls Tryd.prog 84 #[.pointer (some ⟨g, 0, none⟩), .agg #[.int .i64 x, .int .i64 y]] W fun e W' => e = .returned (.tuple #[]) ∧ Hid (St w0 g o (l ++ MWkb.pt o (x, y)) W' ∧ Kr g W W') := by
  have HS := Lib.hid hs
  have HL := Lib.hid hl
  have S := Blk.new W #[.int .i64 x, .int .i64 y] 41
  have HF := Lib.hid (Fr.new hs (.cells #[.int .i64 x, .int .i64 y] 41))
  have HB : Hid (Bel W (W.alloc (.cells #[.int .i64 x, .int .i64 y] 41))) := Lib.hid ((Bel.refl W).alloc (Nat.le_refl _) _)
  clear hs hl
  go_enter Tryd.func84, Tryd.ntmps84
  go_upto_region 1 with (fail)
  obtain ⟨W1, hW⟩ : ∃ X, W.alloc (.cells #[.int .i64 x, .int .i64 y] 41) = X := ⟨_, rfl⟩
  rw [hW] at S HF HB ⊢
  obtain ⟨b, hb⟩ : ∃ X, W.heap.size = X := ⟨_, rfl⟩
  rw [hb] at S HF ⊢
  clear hW hb
  have s0 : W1.cell? ⟨b, 0, none⟩ = some (.int .i64 x) := Blk.cell S 0 rfl
  have HSS := Lib.hid S
  have HN1 := Lib.hid (num_calls w0 g o l x 8 W1 (HS.out.bel HB.out) (.inr rfl) (by have := HL.out; omega))
  clear S
  go_wp2_with (first
    | (go_at_call 83; refine (HN2.out).mono ?_; rintro e W3 ⟨rfl, h3⟩)
    | (go_at_call 83; refine (HN1.out).mono ?_; rintro e W2 ⟨rfl, h2⟩; have s1 : W2.cell? ⟨b, 1, none⟩ = some (.int .i64 y) := Blk.cell (HF.out.blk h2.out.2 HSS.out) 1 rfl; have HN2 := Lib.hid (num_calls w0 g o (l ++ MWkb.nm x 8 o) y 8 W2 h2.out.1 (.inr rfl) (by rw [List.length_append, MWkb.nm8]; have := HL.out; omega))))
  go_end0
  refine ⟨by first | rfl | simp, ?_, ((Kr.bel HB.out).trans h2.out.2).trans h3.out.2⟩
  have h9 := h3.out.1
  rw [List.append_assoc] at h9
  exact h9
set_option maxHeartbeats 1000000 in
set_option maxRecDepth 100000 in
/-- Points behind the writer's bytes. -/
theorem points_calls (w0 : World) (g : Nat) (o : Bool) (l : List Int) (v : Value) (pts : List (Int × Int)) (W : World) (hs : St w0 g o l W) (hp : PtsB w0.heap.size W v pts) (hl : l.length + (MWkb.run o pts).length + 9 < 140737488355328) :
    Calls Tryd.prog 85 #[.pointer (some ⟨g, 0, none⟩), v] W fun e W' => e = .returned (.tuple #[]) ∧ Hid (St w0 g o (l ++ MWkb.run o pts) W' ∧ Kr g W W') := by
  obtain ⟨a1, c1, rfl, _, hm1, hx1⟩ := hp
  have HX := Lib.hid hx1
  have HS := Lib.hid hs
  have HL := Lib.hid hl
  have HN1 := Lib.hid (num_calls w0 g o l pts.length 4 W hs (.inl rfl) (by omega))
  clear hs hx1 hl
  go_enter Tryd.func85, Tryd.ntmps85
  go_wp2_with (go_at_call 83; refine (HN1.out).mono ?_; rintro e W2 ⟨rfl, h2⟩)
  go_loopw [12] (fun i wr => ∃ (k : Nat), i = .int .i64 k ∧ k ≤ pts.length ∧ Hid (St w0 g o (l ++ (MWkb.nm pts.length 4 o ++ MWkb.ptsE o (pts.take k))) wr) ∧ Hid (Kr g W wr)) (fun i _ => pts.length - (intOf i).toNat)
  case atStart => exact ⟨0, rfl, by omega, Lib.hid (by rw [List.take_zero]; have := h2.out.1; simpa [MWkb.ptsE] using this), Lib.hid h2.out.2⟩
  case round =>
    obtain ⟨k, rfl, hk, HSk, HKk⟩ := hrel
    by_cases hlt : k < pts.length
    · obtain ⟨b, off, rfl, hb, x0, x1⟩ := HX.out k hlt
      have KB := RowOk.keepB HS.out.row HKk.out
      have x0 := KB.cell hb x0
      have x1 := KB.cell hb x1
      have htk := MWkb.ptsE_take (o := o) hlt
      have hle := MWkb.ptsE_take_le o pts (k + 1)
      obtain ⟨p, hp⟩ : ∃ p, pts[k] = p := ⟨_, rfl⟩
      rw [hp] at x0 x1 htk
      obtain ⟨px, py⟩ := p
      dsimp only at x0 x1
      have HTK := Lib.hid htk
      have HLT := Lib.hid hlt
      have S := Blk.new wr #[.int .i64 px, .int .i64 py] 41
      have HB : Hid (Bel wr (wr.alloc (.cells #[.int .i64 px, .int .i64 py] 41))) := Lib.hid ((Bel.refl wr).alloc (Nat.le_refl _) _)
      have HLL : Hid ((l ++ (MWkb.nm pts.length 4 o ++ MWkb.ptsE o (pts.take k))).length + 25 < 140737488355328) := Lib.hid (by
        rw [htk, List.length_append, MWkb.pt_len] at hle
        have := HL.out
        unfold MWkb.run at this
        rw [List.length_append] at this
        rw [List.length_append, List.length_append]
        omega)
      clear hp htk hle KB
      go_upto_region 4 with (fail)
      obtain ⟨w5, hW⟩ : ∃ X, wr.alloc (.cells #[.int .i64 px, .int .i64 py] 41) = X := ⟨_, rfl⟩
      rw [hW] at S HB ⊢
      obtain ⟨gp, hg⟩ : ∃ X, wr.heap.size = X := ⟨_, rfl⟩
      rw [hg] at S ⊢
      clear hW hg x0 x1
      have s0 : w5.cell? ⟨gp, 0, none⟩ = some (.int .i64 px) := Blk.cell S 0 rfl
      have s1 : w5.cell? ⟨gp, 1, none⟩ = some (.int .i64 py) := Blk.cell S 1 rfl
      have HPC := Lib.hid (point_calls w0 g o _ px py w5 (HSk.out.bel HB.out) HLL.out)
      clear S
      go_wp2_with (go_at_call 84; refine (HPC.out).mono ?_; rintro e w7 ⟨rfl, h7⟩)
      go_roundw
      case rel => exact ⟨k + 1, by go_num, by have := HLT.out; omega, Lib.hid (by rw [HTK.out]; have h9 := h7.out.1; rw [List.append_assoc, List.append_assoc] at h9; exact h9), Lib.hid ((HKk.out.trans (Kr.bel HB.out)).trans h7.out.2)⟩
      case measure => (have := HLT.out; simp [intOf] <;> omega)
    · have : k = pts.length := by omega
      subst this
      clear hlt hk
      go_wp2
      go_end0
      exact ⟨by first | rfl | simp, by have h9 := HSk.out; rw [List.take_length] at h9; exact h9, HKk.out⟩
end Go.Proofs.YtfknhpgelleenaaDoor.K
namespace Go.Proofs.YtfknhpgelleenaaDoor.K
open Go Go.RowKit Go.Proofs.YtfknhpgelleenaaDoorW.PrintWords Go.Proofs.YtfknhpgelleenaaDoorW.PrintLast Go.Proofs.YtfknhpgelleenaaDoorW.PrintMore
set_option linter.unusedVariables false
set_option linter.unusedSimpArgs false
open Go.Proofs.YtfknhpgelleenaaDoor.MShape (Sh flats)
/-- The point that is nowhere, as it is laid. -/
def NowAt (W : World) : Prop := W.cell? ⟨1, 0, none⟩ = some (.int .i64 (-9223372036854775808)) ∧ W.cell? ⟨1, 1, none⟩ = some (.int .i64 (-9223372036854775808))
theorem NowAt.below {w0 W : World} {B : Nat} (hB : 2 ≤ B) (h : NowAt w0) (hb : Below B w0 W) : NowAt W := ⟨(hb.cell (p := ⟨1, 0, none⟩) (show 1 < B by omega)).trans h.1, (hb.cell (p := ⟨1, 1, none⟩) (show 1 < B by omega)).trans h.2⟩
section
variable {ops : Array Oper} {rest : List Oper} {oo : Oper} {a : Act} {Q : Exit → Act → World → Prop}
theorem appB {w0 W : World} (s x : Operand) (hgd : oo.guard = none) (ho : oo.op = .call { callee := .builtin .append, args := #[s, x], argTypes := #[49, 49] })
    (v : Value) (xs : List Int) (p : Int) (hs : a.eval s = v) (hx : a.eval x = .slice (some ⟨W.heap.size, 0, none⟩) 1 1)
    (HO : RB w0 W v xs) (HB : Below w0.heap.size w0 W) (hl : xs.length < 140737488355328)
    (h : ∀ v1 w1, Hid (RB w0 w1 v1 (xs ++ [p])) → Hid (Below w0.heap.size w0 w1) → Hid (W.grownBy w1 v.ownBlock) → Hid (v1.ownBlock = v.ownBlock ∨ ∃ b, v1.ownBlock = some b ∧ W.heap.size ≤ b) → wpList Tryd.prog ops Q rest (a.put oo.dst v1) w1) :
    wpList Tryd.prog ops Q (oo :: rest) a (W.alloc (.cells #[.int .u8 p] 5)) :=
  Kd.R_append (Kd.int .u8) (w0 := w0) w0.heap.size hgd s x 49 5 (.int .u8 0) 1 ho Tryd.underlying49 infoB rfl (by decide) (by omega) v xs p [.int .u8 p] (fun _ => True) (fun _ => False) hs hx rfl
    (fun _ hk => hk.elim) (fun _ _ => trivial) HO HB HB.size (by omega) (fun v1 w1 ho hb hg hat => h v1 w1 (Lib.hid ho) (Lib.hid hb) (Lib.hid hg) (Lib.hid hat))
end
theorem RB.sl {w0 W : World} {v : Value} {l : List Int} (h : RB w0 W v l) : ∃ A n c, v = .slice A n c := by
  obtain ⟨A, c, e, _, _⟩ := h.reads
  exact ⟨A, _, c, e⟩
theorem RB.ne_blk {w0 W : World} {v : Value} {l : List Int} (h : RB w0 W v l) {g t : Nat} {cs : Array Value} (hb : Blk W g cs t) (ht : 5 ≠ t) : some g ≠ v.ownBlock := Kd.R_ne h hb ht
theorem St.app {w0 W w1 : World} {g : Nat} {o : Bool} {v v1 : Value} {xs ys : List Int} (hg : Blk W g #[v, .bool o] 92) (hr : RB w0 W v xs) (hwg : w0.heap.size ≤ g) (hr1 : RB w0 w1 v1 ys) (hb1 : Below w0.heap.size w0 w1) (hgr : W.grownBy w1 v.ownBlock) (hat : v1.ownBlock = v.ownBlock ∨ ∃ b, v1.ownBlock = some b ∧ W.heap.size ≤ b) :
    St w0 g o ys (w1.setCell ⟨g, 0, none⟩ v1) ∧ Kr g W (w1.setCell ⟨g, 0, none⟩ v1) := by
  have hne := hr.ne_blk hg (by decide)
  have h1 : Blk w1 g #[v, .bool o] 92 := (hgr.block g (Blk.lt hg) hne).trans hg
  have h2 : Blk (w1.setCell ⟨g, 0, none⟩ v1) g #[v1, .bool o] 92 := h1.set 0 v1
  have r1 : rowB g (w1.setCell ⟨g, 0, none⟩ v1) = v1.ownBlock := by unfold rowB; rw [Blk.cell h2 0 rfl]; rfl
  have r0 : rowB g W = v.ownBlock := by unfold rowB; rw [Blk.cell hg 0 rfl]; rfl
  refine ⟨⟨v1, h2, hr1.set (hr1.ne_blk h1 (by decide)) v1, below_set hb1 hwg _, hwg⟩, by simpa using hgr.size, fun _ => ⟨?_, fun j hj hrow cs t' r hc => ?_⟩⟩
  · rw [r1, r0]
    rcases hat with e | ⟨b, e, hb⟩
    · exact .inl e
    · exact .inr ⟨b, e, hb, by simpa using (hr1.own_lt b e).2⟩
  · rw [r0] at hrow
    exact (Below.heap_setCell w1 ⟨g, 0, none⟩ v1 j hj).trans ((hgr.block j (Array.getElem?_eq_some_iff.1 hc).1 hrow).trans hc)
/-- What a call of the writer's shape tells. -/
def ShC (D : Nat) : Prop := ∀ (s : Sh) (c : Value × Value × Value) (w0 : World) (g : Nat) (o : Bool) (l : List Int) (W : World), 2 ≤ w0.heap.size → NowAt w0 → ShB w0.heap.size W D c s → St w0 g o l W → l.length + (MWkb.enc o s).length + 9 < 140737488355328 →
    Calls Tryd.prog 61 #[.pointer (some ⟨g, 0, none⟩), .agg #[c.1, c.2.1, c.2.2]] W fun e W' => e = .returned (.tuple #[]) ∧ Hid (St w0 g o (l ++ MWkb.enc o s) W' ∧ Kr g W W')
set_option maxHeartbeats 4000000 in
set_option maxRecDepth 100000 in
theorem wshape_calls : ∀ D : Nat, ShC D := by
  intro D
  induction D with
  | zero => intro s c w0 g o l W _ _ h; exact h.elim
  | succ D ih =>
    intro s c w0 g o l W hw2 hnow hs hst hlen
    have IH := Lib.hid ih
    clear ih
    obtain ⟨kind, pts, ps⟩ := s
    obtain ⟨e0, hpts, cs, hcs, ⟨a2, c2, e2, _, hm2, hx2⟩, hsub⟩ := hs
    have hpts' := hpts
    obtain ⟨a1, c1, e1, hc1, hm1, hx1⟩ := hpts
    obtain ⟨v0, v1, v2⟩ := c
    simp only at e0 e1 e2 hpts'
    subst e0 e1 e2
    dsimp only
    have HX1 := Lib.hid hx1
    have HX2 := Lib.hid hx2
    have HSUB := Lib.hid hsub
    have HCS := Lib.hid hcs
    have HPT := Lib.hid hpts'
    have HST := Lib.hid hst
    have HW2 := Lib.hid hw2
    have HNOW := Lib.hid hnow
    have henc : MWkb.enc o (.mk kind pts ps) = MWkb.mark o :: (MWkb.nm kind 4 o ++ (if kind = 1 then MWkb.pt o (pts.headD MWkb.nw) else if kind = 2 then MWkb.run o pts else MWkb.nm ps.length 4 o ++ (if kind = 3 then MWkb.ringsE o ps else MWkb.encs o ps))) := by first | rfl | (conv => lhs; unfold MWkb.enc)
    have HLEN := Lib.hid hlen
    have HENC := Lib.hid henc
    have HRW := Lib.hid hst.row
    clear hx1 hx2 hsub hcs hpts' hc1 hst hw2 hnow hlen henc
    have S := Blk.new W #[.int .i64 kind, .slice a1 pts.length c1, .slice a2 cs.length c2] 25
    have HF := Lib.hid (Fr.new HST.out (.cells #[.int .i64 kind, .slice a1 pts.length c1, .slice a2 cs.length c2] 25))
    have HB : Hid (Bel W (W.alloc (.cells #[.int .i64 kind, .slice a1 pts.length c1, .slice a2 cs.length c2] 25))) := Lib.hid ((Bel.refl W).alloc (Nat.le_refl _) _)
    go_enter Tryd.func61, Tryd.ntmps61
    go_upto_region 1 with (fail)
    obtain ⟨W1, hW⟩ : ∃ X, W.alloc (.cells #[.int .i64 kind, .slice a1 pts.length c1, .slice a2 cs.length c2] 25) = X := ⟨_, rfl⟩
    rw [hW] at S HF HB ⊢
    obtain ⟨gs, hb⟩ : ∃ X, W.heap.size = X := ⟨_, rfl⟩
    rw [hb] at S HF ⊢
    clear hW hb
    have HS1 := Lib.hid S
    have HST1 := Lib.hid (HST.out.bel HB.out)
    clear S
    have o1 := HST1.out.order
    obtain ⟨v, hG, hR, hB1, hwg⟩ := HST1.out
    have hne := hR.ne_blk hG (by decide)
    have g0 : W1.cell? ⟨g, 0, none⟩ = some v := Blk.cell hG 0 rfl
    obtain ⟨A9, c9, hv, -, -⟩ := id hR.reads
    obtain ⟨nl, hnl⟩ : ∃ n, l.length = n := ⟨_, rfl⟩
    rw [hnl] at hv
    subst hv
    have HG := Lib.hid hG
    have HR := Lib.hid hR
    have HB1 := Lib.hid hB1
    have HWG := Lib.hid hwg
    have HNE := Lib.hid hne
    have HLL : Hid (l.length < 140737488355328) := Lib.hid (by have := HLEN.out; omega)
    clear hnl hG hR hB1 hwg hne
    cases o
    all_goals
      go_upto_region 5 with (at_builtin; refine appB (w0 := w0) (.tmp 17) (.tmp 19) rfl rfl (.slice A9 nl c9) l _ rfl rfl HR.out HB1.out HLL.out ?_; intro v8 w8 HR8 HB8 HGR8 HAT8; obtain ⟨A8, n8, c8, hv8⟩ := RB.sl HR8.out; subst hv8; have b9 : Blk w8 g _ 92 := (HGR8.out.block g (Blk.lt HG.out) HNE.out).trans HG.out; have f9 := b9.froz 0; have g9 : w8.cell? ⟨g, 0, none⟩ = some (.slice A9 nl c9) := Blk.cell b9 0 rfl; clear b9)
      have HSA := Lib.hid (St.app HG.out HR.out HWG.out HR8.out HB8.out HGR8.out HAT8.out)
      obtain ⟨W4, hW⟩ : ∃ X, w8.setCell ⟨g, 0, none⟩ (.slice A8 n8 c8) = X := ⟨_, rfl⟩
      rw [hW] at HSA ⊢
      clear hW g9 f9 g0 o1
      obtain ⟨s0, s1, s2⟩ := Blk.cells3 (HF.out.blk HSA.out.2 HS1.out)
      have HN1 := Lib.hid (num_calls w0 g _ _ kind 4 W4 HSA.out.1 (.inl rfl) (by have := HLEN.out; rw [HENC.out] at this; rw [List.length_cons, List.length_append, MWkb.nm4] at this; rw [List.length_append, List.length_singleton]; omega))
      go_upto_region 6 with (go_at_call 83; refine (HN1.out).mono ?_; rintro e W5 ⟨rfl, h5⟩)
      have HS5 := Lib.hid h5.out.1
      have HK5 := Lib.hid ((HSA.out.2).trans h5.out.2)
      clear s0 s1 s2 h5 HN1 HSA HR8 HB8 HGR8 HAT8 HNE HLL
      obtain ⟨s0, s1, s2⟩ := Blk.cells3 (HF.out.blk HK5.out HS1.out)
      have HF5 := Lib.hid (HF.out.kr HK5.out)
      have HB5 := Lib.hid (HF.out.blk HK5.out HS1.out)
      have HKB := Lib.hid ((HRW.out.keepB (Kr.bel HB.out)).trans ((HST1.out.row).keepB HK5.out))
      have HKW := Lib.hid ((Kr.bel HB.out).trans HK5.out)
    · skip
      have HTOT0 : Hid (∀ body, (if kind = 1 then MWkb.pt false (pts.headD MWkb.nw) else if kind = 2 then MWkb.run false pts else MWkb.nm ps.length 4 false ++ (if kind = 3 then MWkb.ringsE false ps else MWkb.encs false ps)) = body → l ++ MWkb.enc false (.mk kind pts ps) = (l ++ [0] ++ MWkb.nm kind 4 false) ++ body) := Lib.hid (fun body hb => by rw [HENC.out, hb]; simp [MWkb.mark])
      have HL5 : Hid ((l ++ [0] ++ MWkb.nm kind 4 false).length = l.length + 5) := Lib.hid (by rw [List.length_append, List.length_append, MWkb.nm4]; rfl)
      have HLEN : Hid ((l ++ MWkb.enc false (.mk kind pts ps)).length + 9 < 140737488355328) := Lib.hid (by rw [List.length_append]; exact HLEN.out)
      obtain ⟨L5, hL5⟩ : ∃ L, l ++ [0] ++ MWkb.nm kind 4 false = L := ⟨_, rfl⟩
      rw [hL5] at HS5 HTOT0 HL5
      clear hL5
      by_cases hk1 : kind = 1
      · subst hk1
        have HTOT := Lib.hid (HTOT0.out _ (if_pos rfl))
        have HPL : Hid (L5.length + 25 < 140737488355328) := Lib.hid (by have := HLEN.out; rw [HTOT.out, List.length_append, MWkb.pt_len] at this; omega)
        have h11 : ((1 : Int) == 1) = true := rfl
        cases pts with
        | nil =>
          obtain ⟨n0, n1⟩ := HNOW.out.below (W := W5) HW2.out (by obtain ⟨_, _, _, hB, _⟩ := HS5.out; exact hB)
          have HPC := Lib.hid (point_calls w0 g false L5 (-9223372036854775808) (-9223372036854775808) W5 HS5.out HPL.out)
          go_wp2_with (go_at_call 84; refine (HPC.out).mono ?_; rintro e W7 ⟨rfl, h7⟩)
          refine bodyPost_ret (v := .tuple #[]) (by simp [results, Tryd.results61, go_sem]) rfl ⟨rfl, Lib.hid ⟨by rw [HTOT.out]; exact h7.out.1, HKW.out.trans h7.out.2⟩⟩
        | cons p pts =>
          obtain ⟨b, off, rfl, hbB, x0, x1⟩ := HX1.out 0 (by simp)
          have x0 := HKB.out.cell hbB x0
          have x1 := HKB.out.cell hbB x1
          obtain ⟨px, py⟩ := p
          have x0 : W5.cell? ⟨b, off, none⟩ = some (.int .i64 px) := x0
          have x1 : W5.cell? ⟨b, off + 1, none⟩ = some (.int .i64 py) := x1
          have HPC := Lib.hid (point_calls w0 g false L5 px py W5 HS5.out HPL.out)
          have hz : (((((px, py) :: pts).length : Nat) : Int) == 0) = false := by simp <;> omega
          have hz2 : (0 : Int) < ((((px, py) :: pts).length : Nat) : Int) := by simp <;> omega
          obtain ⟨n, hn⟩ : ∃ n, ((px, py) :: pts).length = n := ⟨_, rfl⟩
          rw [hn] at hz hz2 s1 ⊢
          clear hn
          go_wp2_with (go_at_call 84; refine (HPC.out).mono ?_; rintro e W7 ⟨rfl, h7⟩)
          go_end0
          exact ⟨by first | rfl | simp, by rw [HTOT.out]; exact h7.out.1, HKW.out.trans h7.out.2⟩
      have hk1' : (kind == 1) = false := by simpa using hk1
      by_cases hk2 : kind = 2
      · subst hk2
        have HTOT := Lib.hid (HTOT0.out _ (by rw [if_neg (by omega), if_pos rfl]))
        have HPC := Lib.hid (points_calls w0 g false L5 (.slice a1 pts.length c1) pts W5 HS5.out (HPT.out.keep HKB.out) (by have := HLEN.out; rw [HTOT.out, List.length_append] at this; omega))
        go_wp2_with (go_at_call 85; refine (HPC.out).mono ?_; rintro e W7 ⟨rfl, h7⟩)
        go_end0
        exact ⟨by first | rfl | simp, by rw [HTOT.out]; exact h7.out.1, HKW.out.trans h7.out.2⟩
      have hk2' : (kind == 2) = false := by simpa using hk2
      have hcl : Hid ((cs.length : Int) = (ps.length : Int)) := Lib.hid (by have := HCS.out; omega)
      have HN6 : Hid (Calls Tryd.prog 83 #[.pointer (some ⟨g, 0, none⟩), .int .i64 cs.length, .int .i64 4] W5 fun e W' => e = .returned (.tuple #[]) ∧ Hid (St w0 g false (L5 ++ MWkb.nm ps.length 4 false) W' ∧ Kr g W5 W')) := Lib.hid (by
        have h9 := num_calls w0 g false L5 cs.length 4 W5 HS5.out (.inl rfl) (by
          have h1 := HLEN.out
          have h2 := HTOT0.out _ rfl
          rw [if_neg hk1, if_neg hk2] at h2
          rw [h2, List.length_append, List.length_append, MWkb.nm4] at h1
          omega)
        rw [hcl.out] at h9 ⊢
        exact h9)
      by_cases hk3 : kind = 3
      · subst hk3
        have HTOT := Lib.hid (HTOT0.out _ (by rw [if_neg (by omega), if_neg (by omega), if_pos rfl]))
        go_upto_region 21 with (go_at_call 83; refine (HN6.out).mono ?_; rintro e W6 ⟨rfl, h6⟩)
        have HS6 := Lib.hid h6.out.1
        have HK6 := Lib.hid h6.out.2
        clear s0 s1 s2
        obtain ⟨s0, s1, s2⟩ := Blk.cells3 (HF5.out.blk HK6.out HB5.out)
        go_wp2
        clear s0 s1 s2 h6 HN6
        go_loopw [76] (fun i wr => ∃ (k : Nat), i = .int .i64 k ∧ k ≤ cs.length ∧ Hid (St w0 g false (L5 ++ (MWkb.nm ps.length 4 false ++ MWkb.ringsE false (ps.take k))) wr) ∧ Hid (Kr g W5 wr)) (fun i _ => cs.length - (intOf i).toNat)
        case atStart => exact ⟨0, rfl, by omega, Lib.hid (by rw [List.take_zero, show MWkb.ringsE false [] = [] by simp [MWkb.ringsE], List.append_nil]; exact HS6.out), HK6⟩
        case round =>
          obtain ⟨k, rfl, hk, HSk, HKk⟩ := hrel
          by_cases hlt : k < cs.length
          · obtain ⟨b, off, rfl, hbB, x0, x1, x2⟩ := HX2.out k hlt
            have hpk : k < ps.length := by have := HCS.out; omega
            have KB : KeepB w0.heap.size W wr := HKB.out.trans ((HS5.out.row).keepB HKk.out)
            have x0 := KB.cell hbB x0
            have x1 := KB.cell hbB x1
            have x2 := KB.cell hbB x2
            have hsh := (HSUB.out k cs[k] ps[k] (List.getElem?_eq_getElem hlt) (List.getElem?_eq_getElem hpk)).keep KB
            have htk := MWkb.ringsE_take (o := false) hpk
            have hle := MWkb.ringsE_take_le false ps (k + 1)
            obtain ⟨xk, hxk⟩ : ∃ x, cs[k] = x := ⟨_, rfl⟩
            obtain ⟨pk, hpk2⟩ : ∃ x, ps[k] = x := ⟨_, rfl⟩
            rw [hxk] at x0 x1 x2 hsh
            rw [hpk2] at hsh htk
            obtain ⟨kind', u1, u2, u3, u4, u5, u6, rfl⟩ := hsh.forms
            dsimp only at x0 x1 x2
            have HTK := Lib.hid htk
            have HLT := Lib.hid hlt
            have HLL : Hid ((L5 ++ (MWkb.nm ps.length 4 false ++ MWkb.ringsE false (ps.take k))).length + (MWkb.run false (MWkb.ptsOf pk)).length + 9 < 140737488355328) := Lib.hid (by
              rw [htk, List.length_append] at hle
              have := HLEN.out
              rw [HTOT.out, List.length_append, List.length_append] at this
              rw [List.length_append, List.length_append]
              have := HL5.out
              omega)
            have P := Blk.new wr #[.int .i64 kind', .slice u1 u2 u3, .slice u4 u5 u6] 25
            have HB9 : Hid (Bel wr (wr.alloc (.cells #[.int .i64 kind', .slice u1 u2 u3, .slice u4 u5 u6] 25))) := Lib.hid ((Bel.refl wr).alloc (Nat.le_refl _) _)
            have HSH := Lib.hid hsh
            clear hxk hpk2 hsh KB hpk htk hle
            go_upto_region 24 with (fail)
            obtain ⟨w9, hW⟩ : ∃ X, wr.alloc (.cells #[.int .i64 kind', .slice u1 u2 u3, .slice u4 u5 u6] 25) = X := ⟨_, rfl⟩
            rw [hW] at P HB9 ⊢
            obtain ⟨gp, hg⟩ : ∃ X, wr.heap.size = X := ⟨_, rfl⟩
            rw [hg] at P ⊢
            clear hW hg x0 x1 x2
            obtain ⟨p0, p1, p2⟩ := Blk.cells3 P
            clear P
            have HPC := Lib.hid (points_calls w0 g false _ (.slice u1 u2 u3) (MWkb.ptsOf pk) w9 (HSk.out.bel HB9.out) (by have h9 := HSH.out.keep (KeepB.bel HB9.out); cases D with | zero => exact h9.elim | succ D => cases pk; exact h9.2.1) HLL.out)
            go_wp2_with (go_at_call 85; refine (HPC.out).mono ?_; rintro e w7 ⟨rfl, h7⟩)
            go_roundw
            case rel => exact ⟨k + 1, by go_num, by have := HLT.out; omega, Lib.hid (by rw [HTK.out]; have h9 := h7.out.1; rw [List.append_assoc, List.append_assoc] at h9; exact h9), Lib.hid ((HKk.out.trans (Kr.bel HB9.out)).trans h7.out.2)⟩
            case measure => (have := HLT.out; simp [intOf] <;> omega)
          · have : k = cs.length := by omega
            subst this
            have htk : ps.take cs.length = ps := by rw [HCS.out, List.take_length]
            clear hlt hk
            go_wp2
            go_end0
            exact ⟨by first | rfl | simp, by rw [HTOT.out]; have h9 := HSk.out; rw [htk] at h9; exact h9, HKW.out.trans HKk.out⟩
      · have hk3' : (kind == 3) = false := by simpa using hk3
        have HTOT := Lib.hid (HTOT0.out _ (by rw [if_neg hk1, if_neg hk2, if_neg hk3]))
        clear hk1 hk2 hk3
        go_upto_region 8 with (go_at_call 83; refine (HN6.out).mono ?_; rintro e W6 ⟨rfl, h6⟩)
        have HS6 := Lib.hid h6.out.1
        have HK6 := Lib.hid h6.out.2
        clear s0 s1 s2
        obtain ⟨s0, s1, s2⟩ := Blk.cells3 (HF5.out.blk HK6.out HB5.out)
        go_wp2
        clear s0 s1 s2 h6 HN6
        go_loopw [37] (fun i wr => ∃ (k : Nat), i = .int .i64 k ∧ k ≤ cs.length ∧ Hid (St w0 g false (L5 ++ (MWkb.nm ps.length 4 false ++ MWkb.encs false (ps.take k))) wr) ∧ Hid (Kr g W5 wr)) (fun i _ => cs.length - (intOf i).toNat)
        case atStart => exact ⟨0, rfl, by omega, Lib.hid (by rw [List.take_zero, show MWkb.encs false [] = [] by simp [MWkb.encs], List.append_nil]; exact HS6.out), HK6⟩
        case round =>
          obtain ⟨k, rfl, hk, HSk, HKk⟩ := hrel
          by_cases hlt : k < cs.length
          · obtain ⟨b, off, rfl, hbB, x0, x1, x2⟩ := HX2.out k hlt
            have hpk : k < ps.length := by have := HCS.out; omega
            have KB : KeepB w0.heap.size W wr := HKB.out.trans ((HS5.out.row).keepB HKk.out)
            have x0 := KB.cell hbB x0
            have x1 := KB.cell hbB x1
            have x2 := KB.cell hbB x2
            have hsh := (HSUB.out k cs[k] ps[k] (List.getElem?_eq_getElem hlt) (List.getElem?_eq_getElem hpk)).keep KB
            have htk := MWkb.encs_take (o := false) hpk
            have hle := MWkb.encs_take_le false ps (k + 1)
            obtain ⟨xk, hxk⟩ : ∃ x, cs[k] = x := ⟨_, rfl⟩
            obtain ⟨pk, hpk2⟩ : ∃ x, ps[k] = x := ⟨_, rfl⟩
            rw [hxk] at x0 x1 x2 hsh
            rw [hpk2] at hsh htk
            obtain ⟨kind', u1, u2, u3, u4, u5, u6, rfl⟩ := hsh.forms
            dsimp only at x0 x1 x2
            have HTK := Lib.hid htk
            have HLT := Lib.hid hlt
            have HLL : Hid ((L5 ++ (MWkb.nm ps.length 4 false ++ MWkb.encs false (ps.take k))).length + (MWkb.enc false pk).length + 9 < 140737488355328) := Lib.hid (by
              rw [htk, List.length_append] at hle
              have := HLEN.out
              rw [HTOT.out, List.length_append, List.length_append] at this
              rw [List.length_append, List.length_append]
              have := HL5.out
              omega)
            have P := Blk.new wr #[.int .i64 kind', .slice u1 u2 u3, .slice u4 u5 u6] 25
            have HB9 : Hid (Bel wr (wr.alloc (.cells #[.int .i64 kind', .slice u1 u2 u3, .slice u4 u5 u6] 25))) := Lib.hid ((Bel.refl wr).alloc (Nat.le_refl _) _)
            have HSH := Lib.hid hsh
            clear hxk hpk2 hsh KB hpk htk hle
            go_upto_region 11 with (fail)
            obtain ⟨w9, hW⟩ : ∃ X, wr.alloc (.cells #[.int .i64 kind', .slice u1 u2 u3, .slice u4 u5 u6] 25) = X := ⟨_, rfl⟩
            rw [hW] at P HB9 ⊢
            obtain ⟨gp, hg⟩ : ∃ X, wr.heap.size = X := ⟨_, rfl⟩
            rw [hg] at P ⊢
            clear hW hg x0 x1 x2
            obtain ⟨p0, p1, p2⟩ := Blk.cells3 P
            clear P
            have HPC := Lib.hid (IH.out pk _ w0 g false _ w9 HW2.out HNOW.out (HSH.out.keep (KeepB.bel HB9.out)) (HSk.out.bel HB9.out) HLL.out)
            go_wp2_with (go_at_call 61; refine (HPC.out).mono ?_; rintro e w7 ⟨rfl, h7⟩)
            go_roundw
            case rel => exact ⟨k + 1, by go_num, by have := HLT.out; omega, Lib.hid (by rw [HTK.out]; have h9 := h7.out.1; rw [List.append_assoc, List.append_assoc] at h9; exact h9), Lib.hid ((HKk.out.trans (Kr.bel HB9.out)).trans h7.out.2)⟩
            case measure => (have := HLT.out; simp [intOf] <;> omega)
          · have : k = cs.length := by omega
            subst this
            have htk : ps.take cs.length = ps := by rw [HCS.out, List.take_length]
            clear hlt hk
            go_wp2
            go_end0
            exact ⟨by first | rfl | simp, by rw [HTOT.out]; have h9 := HSk.out; rw [htk] at h9; exact h9, HKW.out.trans HKk.out⟩
    · skip
      have HTOT0 : Hid (∀ body, (if kind = 1 then MWkb.pt true (pts.headD MWkb.nw) else if kind = 2 then MWkb.run true pts else MWkb.nm ps.length 4 true ++ (if kind = 3 then MWkb.ringsE true ps else MWkb.encs true ps)) = body → l ++ MWkb.enc true (.mk kind pts ps) = (l ++ [1] ++ MWkb.nm kind 4 true) ++ body) := Lib.hid (fun body hb => by rw [HENC.out, hb]; simp [MWkb.mark])
      have HL5 : Hid ((l ++ [1] ++ MWkb.nm kind 4 true).length = l.length + 5) := Lib.hid (by rw [List.length_append, List.length_append, MWkb.nm4]; rfl)
      have HLEN : Hid ((l ++ MWkb.enc true (.mk kind pts ps)).length + 9 < 140737488355328) := Lib.hid (by rw [List.length_append]; exact HLEN.out)
      obtain ⟨L5, hL5⟩ : ∃ L, l ++ [1] ++ MWkb.nm kind 4 true = L := ⟨_, rfl⟩
      rw [hL5] at HS5 HTOT0 HL5
      clear hL5
      by_cases hk1 : kind = 1
      · subst hk1
        have HTOT := Lib.hid (HTOT0.out _ (if_pos rfl))
        have HPL : Hid (L5.length + 25 < 140737488355328) := Lib.hid (by have := HLEN.out; rw [HTOT.out, List.length_append, MWkb.pt_len] at this; omega)
        have h11 : ((1 : Int) == 1) = true := rfl
        cases pts with
        | nil =>
          obtain ⟨n0, n1⟩ := HNOW.out.below (W := W5) HW2.out (by obtain ⟨_, _, _, hB, _⟩ := HS5.out; exact hB)
          have HPC := Lib.hid (point_calls w0 g true L5 (-9223372036854775808) (-9223372036854775808) W5 HS5.out HPL.out)
          go_wp2_with (go_at_call 84; refine (HPC.out).mono ?_; rintro e W7 ⟨rfl, h7⟩)
          refine bodyPost_ret (v := .tuple #[]) (by simp [results, Tryd.results61, go_sem]) rfl ⟨rfl, Lib.hid ⟨by rw [HTOT.out]; exact h7.out.1, HKW.out.trans h7.out.2⟩⟩
        | cons p pts =>
          obtain ⟨b, off, rfl, hbB, x0, x1⟩ := HX1.out 0 (by simp)
          have x0 := HKB.out.cell hbB x0
          have x1 := HKB.out.cell hbB x1
          obtain ⟨px, py⟩ := p
          have x0 : W5.cell? ⟨b, off, none⟩ = some (.int .i64 px) := x0
          have x1 : W5.cell? ⟨b, off + 1, none⟩ = some (.int .i64 py) := x1
          have HPC := Lib.hid (point_calls w0 g true L5 px py W5 HS5.out HPL.out)
          have hz : (((((px, py) :: pts).length : Nat) : Int) == 0) = false := by simp <;> omega
          have hz2 : (0 : Int) < ((((px, py) :: pts).length : Nat) : Int) := by simp <;> omega
          obtain ⟨n, hn⟩ : ∃ n, ((px, py) :: pts).length = n := ⟨_, rfl⟩
          rw [hn] at hz hz2 s1 ⊢
          clear hn
          go_wp2_with (go_at_call 84; refine (HPC.out).mono ?_; rintro e W7 ⟨rfl, h7⟩)
          go_end0
          exact ⟨by first | rfl | simp, by rw [HTOT.out]; exact h7.out.1, HKW.out.trans h7.out.2⟩
      have hk1' : (kind == 1) = false := by simpa using hk1
      by_cases hk2 : kind = 2
      · subst hk2
        have HTOT := Lib.hid (HTOT0.out _ (by rw [if_neg (by omega), if_pos rfl]))
        have HPC := Lib.hid (points_calls w0 g true L5 (.slice a1 pts.length c1) pts W5 HS5.out (HPT.out.keep HKB.out) (by have := HLEN.out; rw [HTOT.out, List.length_append] at this; omega))
        go_wp2_with (go_at_call 85; refine (HPC.out).mono ?_; rintro e W7 ⟨rfl, h7⟩)
        go_end0
        exact ⟨by first | rfl | simp, by rw [HTOT.out]; exact h7.out.1, HKW.out.trans h7.out.2⟩
      have hk2' : (kind == 2) = false := by simpa using hk2
      have hcl : Hid ((cs.length : Int) = (ps.length : Int)) := Lib.hid (by have := HCS.out; omega)
      have HN6 : Hid (Calls Tryd.prog 83 #[.pointer (some ⟨g, 0, none⟩), .int .i64 cs.length, .int .i64 4] W5 fun e W' => e = .returned (.tuple #[]) ∧ Hid (St w0 g true (L5 ++ MWkb.nm ps.length 4 true) W' ∧ Kr g W5 W')) := Lib.hid (by
        have h9 := num_calls w0 g true L5 cs.length 4 W5 HS5.out (.inl rfl) (by
          have h1 := HLEN.out
          have h2 := HTOT0.out _ rfl
          rw [if_neg hk1, if_neg hk2] at h2
          rw [h2, List.length_append, List.length_append, MWkb.nm4] at h1
          omega)
        rw [hcl.out] at h9 ⊢
        exact h9)
      by_cases hk3 : kind = 3
      · subst hk3
        have HTOT := Lib.hid (HTOT0.out _ (by rw [if_neg (by omega), if_neg (by omega), if_pos rfl]))
        go_upto_region 21 with (go_at_call 83; refine (HN6.out).mono ?_; rintro e W6 ⟨rfl, h6⟩)
        have HS6 := Lib.hid h6.out.1
        have HK6 := Lib.hid h6.out.2
        clear s0 s1 s2
        obtain ⟨s0, s1, s2⟩ := Blk.cells3 (HF5.out.blk HK6.out HB5.out)
        go_wp2
        clear s0 s1 s2 h6 HN6
        go_loopw [76] (fun i wr => ∃ (k : Nat), i = .int .i64 k ∧ k ≤ cs.length ∧ Hid (St w0 g true (L5 ++ (MWkb.nm ps.length 4 true ++ MWkb.ringsE true (ps.take k))) wr) ∧ Hid (Kr g W5 wr)) (fun i _ => cs.length - (intOf i).toNat)
        case atStart => exact ⟨0, rfl, by omega, Lib.hid (by rw [List.take_zero, show MWkb.ringsE true [] = [] by simp [MWkb.ringsE], List.append_nil]; exact HS6.out), HK6⟩
        case round =>
          obtain ⟨k, rfl, hk, HSk, HKk⟩ := hrel
          by_cases hlt : k < cs.length
          · obtain ⟨b, off, rfl, hbB, x0, x1, x2⟩ := HX2.out k hlt
            have hpk : k < ps.length := by have := HCS.out; omega
            have KB : KeepB w0.heap.size W wr := HKB.out.trans ((HS5.out.row).keepB HKk.out)
            have x0 := KB.cell hbB x0
            have x1 := KB.cell hbB x1
            have x2 := KB.cell hbB x2
            have hsh := (HSUB.out k cs[k] ps[k] (List.getElem?_eq_getElem hlt) (List.getElem?_eq_getElem hpk)).keep KB
            have htk := MWkb.ringsE_take (o := true) hpk
            have hle := MWkb.ringsE_take_le true ps (k + 1)
            obtain ⟨xk, hxk⟩ : ∃ x, cs[k] = x := ⟨_, rfl⟩
            obtain ⟨pk, hpk2⟩ : ∃ x, ps[k] = x := ⟨_, rfl⟩
            rw [hxk] at x0 x1 x2 hsh
            rw [hpk2] at hsh htk
            obtain ⟨kind', u1, u2, u3, u4, u5, u6, rfl⟩ := hsh.forms
            dsimp only at x0 x1 x2
            have HTK := Lib.hid htk
            have HLT := Lib.hid hlt
            have HLL : Hid ((L5 ++ (MWkb.nm ps.length 4 true ++ MWkb.ringsE true (ps.take k))).length + (MWkb.run true (MWkb.ptsOf pk)).length + 9 < 140737488355328) := Lib.hid (by
              rw [htk, List.length_append] at hle
              have := HLEN.out
              rw [HTOT.out, List.length_append, List.length_append] at this
              rw [List.length_append, List.length_append]
              have := HL5.out
              omega)
            have P := Blk.new wr #[.int .i64 kind', .slice u1 u2 u3, .slice u4 u5 u6] 25
            have HB9 : Hid (Bel wr (wr.alloc (.cells #[.int .i64 kind', .slice u1 u2 u3, .slice u4 u5 u6] 25))) := Lib.hid ((Bel.refl wr).alloc (Nat.le_refl _) _)
            have HSH := Lib.hid hsh
            clear hxk hpk2 hsh KB hpk htk hle
            go_upto_region 24 with (fail)
            obtain ⟨w9, hW⟩ : ∃ X, wr.alloc (.cells #[.int .i64 kind', .slice u1 u2 u3, .slice u4 u5 u6] 25) = X := ⟨_, rfl⟩
            rw [hW] at P HB9 ⊢
            obtain ⟨gp, hg⟩ : ∃ X, wr.heap.size = X := ⟨_, rfl⟩
            rw [hg] at P ⊢
            clear hW hg x0 x1 x2
            obtain ⟨p0, p1, p2⟩ := Blk.cells3 P
            clear P
            have HPC := Lib.hid (points_calls w0 g true _ (.slice u1 u2 u3) (MWkb.ptsOf pk) w9 (HSk.out.bel HB9.out) (by have h9 := HSH.out.keep (KeepB.bel HB9.out); cases D with | zero => exact h9.elim | succ D => cases pk; exact h9.2.1) HLL.out)
            go_wp2_with (go_at_call 85; refine (HPC.out).mono ?_; rintro e w7 ⟨rfl, h7⟩)
            go_roundw
            case rel => exact ⟨k + 1, by go_num, by have := HLT.out; omega, Lib.hid (by rw [HTK.out]; have h9 := h7.out.1; rw [List.append_assoc, List.append_assoc] at h9; exact h9), Lib.hid ((HKk.out.trans (Kr.bel HB9.out)).trans h7.out.2)⟩
            case measure => (have := HLT.out; simp [intOf] <;> omega)
          · have : k = cs.length := by omega
            subst this
            have htk : ps.take cs.length = ps := by rw [HCS.out, List.take_length]
            clear hlt hk
            go_wp2
            go_end0
            exact ⟨by first | rfl | simp, by rw [HTOT.out]; have h9 := HSk.out; rw [htk] at h9; exact h9, HKW.out.trans HKk.out⟩
      · have hk3' : (kind == 3) = false := by simpa using hk3
        have HTOT := Lib.hid (HTOT0.out _ (by rw [if_neg hk1, if_neg hk2, if_neg hk3]))
        clear hk1 hk2 hk3
        go_upto_region 8 with (go_at_call 83; refine (HN6.out).mono ?_; rintro e W6 ⟨rfl, h6⟩)
        have HS6 := Lib.hid h6.out.1
        have HK6 := Lib.hid h6.out.2
        clear s0 s1 s2
        obtain ⟨s0, s1, s2⟩ := Blk.cells3 (HF5.out.blk HK6.out HB5.out)
        go_wp2
        clear s0 s1 s2 h6 HN6
        go_loopw [37] (fun i wr => ∃ (k : Nat), i = .int .i64 k ∧ k ≤ cs.length ∧ Hid (St w0 g true (L5 ++ (MWkb.nm ps.length 4 true ++ MWkb.encs true (ps.take k))) wr) ∧ Hid (Kr g W5 wr)) (fun i _ => cs.length - (intOf i).toNat)
        case atStart => exact ⟨0, rfl, by omega, Lib.hid (by rw [List.take_zero, show MWkb.encs true [] = [] by simp [MWkb.encs], List.append_nil]; exact HS6.out), HK6⟩
        case round =>
          obtain ⟨k, rfl, hk, HSk, HKk⟩ := hrel
          by_cases hlt : k < cs.length
          · obtain ⟨b, off, rfl, hbB, x0, x1, x2⟩ := HX2.out k hlt
            have hpk : k < ps.length := by have := HCS.out; omega
            have KB : KeepB w0.heap.size W wr := HKB.out.trans ((HS5.out.row).keepB HKk.out)
            have x0 := KB.cell hbB x0
            have x1 := KB.cell hbB x1
            have x2 := KB.cell hbB x2
            have hsh := (HSUB.out k cs[k] ps[k] (List.getElem?_eq_getElem hlt) (List.getElem?_eq_getElem hpk)).keep KB
            have htk := MWkb.encs_take (o := true) hpk
            have hle := MWkb.encs_take_le true ps (k + 1)
            obtain ⟨xk, hxk⟩ : ∃ x, cs[k] = x := ⟨_, rfl⟩
            obtain ⟨pk, hpk2⟩ : ∃ x, ps[k] = x := ⟨_, rfl⟩
            rw [hxk] at x0 x1 x2 hsh
            rw [hpk2] at hsh htk
            obtain ⟨kind', u1, u2, u3, u4, u5, u6, rfl⟩ := hsh.forms
            dsimp only at x0 x1 x2
            have HTK := Lib.hid htk
            have HLT := Lib.hid hlt
            have HLL : Hid ((L5 ++ (MWkb.nm ps.length 4 true ++ MWkb.encs true (ps.take k))).length + (MWkb.enc true pk).length + 9 < 140737488355328) := Lib.hid (by
              rw [htk, List.length_append] at hle
              have := HLEN.out
              rw [HTOT.out, List.length_append, List.length_append] at this
              rw [List.length_append, List.length_append]
              have := HL5.out
              omega)
            have P := Blk.new wr #[.int .i64 kind', .slice u1 u2 u3, .slice u4 u5 u6] 25
            have HB9 : Hid (Bel wr (wr.alloc (.cells #[.int .i64 kind', .slice u1 u2 u3, .slice u4 u5 u6] 25))) := Lib.hid ((Bel.refl wr).alloc (Nat.le_refl _) _)
            have HSH := Lib.hid hsh
            clear hxk hpk2 hsh KB hpk htk hle
            go_upto_region 11 with (fail)
            obtain ⟨w9, hW⟩ : ∃ X, wr.alloc (.cells #[.int .i64 kind', .slice u1 u2 u3, .slice u4 u5 u6] 25) = X := ⟨_, rfl⟩
            rw [hW] at P HB9 ⊢
            obtain ⟨gp, hg⟩ : ∃ X, wr.heap.size = X := ⟨_, rfl⟩
            rw [hg] at P ⊢
            clear hW hg x0 x1 x2
            obtain ⟨p0, p1, p2⟩ := Blk.cells3 P
            clear P
            have HPC := Lib.hid (IH.out pk _ w0 g true _ w9 HW2.out HNOW.out (HSH.out.keep (KeepB.bel HB9.out)) (HSk.out.bel HB9.out) HLL.out)
            go_wp2_with (go_at_call 61; refine (HPC.out).mono ?_; rintro e w7 ⟨rfl, h7⟩)
            go_roundw
            case rel => exact ⟨k + 1, by go_num, by have := HLT.out; omega, Lib.hid (by rw [HTK.out]; have h9 := h7.out.1; rw [List.append_assoc, List.append_assoc] at h9; exact h9), Lib.hid ((HKk.out.trans (Kr.bel HB9.out)).trans h7.out.2)⟩
            case measure => (have := HLT.out; simp [intOf] <;> omega)
          · have : k = cs.length := by omega
            subst this
            have htk : ps.take cs.length = ps := by rw [HCS.out, List.take_length]
            clear hlt hk
            go_wp2
            go_end0
            exact ⟨by first | rfl | simp, by rw [HTOT.out]; have h9 := HSk.out; rw [htk] at h9; exact h9, HKW.out.trans HKk.out⟩
end Go.Proofs.YtfknhpgelleenaaDoor.K
namespace Go.Proofs.YtfknhpgelleenaaDoor.K
open Go Go.RowKit Go.Proofs.YtfknhpgelleenaaDoorW.PrintWords Go.Proofs.YtfknhpgelleenaaDoorW.PrintLast Go.Proofs.YtfknhpgelleenaaDoorW.PrintMore
set_option linter.unusedVariables false
set_option linter.unusedSimpArgs false
open Go.Proofs.YtfknhpgelleenaaDoor.MShape (Sh flats)
theorem check_light {s : Sh} (h : MShape.check s = 0) : MShape.light s = true := by
  unfold MShape.check at h
  by_cases h1 : 16 < (MShape.count s).depth
  · rw [if_pos h1] at h; cases h
  rw [if_neg h1] at h
  by_cases h2 : 4000 < (MShape.count s).points ∨ 1000 < (MShape.count s).parts
  · rw [if_pos h2] at h; cases h
  unfold MShape.light
  simp only [Bool.and_eq_true, decide_eq_true_eq]
  omega
/-- What Encode puts. -/
def encB (o : Bool) (s : Sh) : List Int := if MShape.check s = 0 then MWkb.enc o s else []
theorem encB_len (o : Bool) (s : Sh) : (encB o s).length < 100000 := by
  unfold encB
  split
  · rename_i h
    have h1 := MShape.light_is (check_light h)
    have h2 := MWkb.enc_len o s
    omega
  · simp
set_option maxHeartbeats 2000000 in
set_option maxRecDepth 100000 in
theorem encode_calls (D : Nat) (s : Sh) (c : Value × Value × Value) (o : Bool) (w : World) (B : Nat) (hB : B ≤ w.heap.size) (hw2 : 2 ≤ w.heap.size) (hs : ShB B w D c s) (hF : FormsAt w) (hN : NowAt w) :
    Calls Tryd.prog 35 #[.agg #[c.1, c.2.1, c.2.2], .bool o] w fun e w' => ∃ v, e = .returned v ∧ Hid (RB w w' v (encB o s)) ∧ Hid (Bel w w') := by
  have HCK := Lib.hid (fun W h1 h2 h3 h4 => check_calls D s c W B h1 h2 h3 h4)
  have HWS := Lib.hid (fun w0 g l W h1 h2 h3 h4 h5 => wshape_calls D s c w0 g o l W h1 h2 h3 h4 h5)
  have HS := Lib.hid hs
  obtain ⟨kd, e1, e2, e3, e4, e5, e6, rfl⟩ := hs.forms
  dsimp only at HCK HWS HS ⊢
  have HF := Lib.hid hF
  have HN := Lib.hid hN
  have HW2 := Lib.hid hw2
  have HBB := Lib.hid hB
  clear hs hF hN hw2 hB
  have S := Blk.new w #[.int .i64 kd, .slice e1 e2 e3, .slice e4 e5 e6] 25
  have HB : Hid (Bel w (w.alloc (.cells #[.int .i64 kd, .slice e1 e2 e3, .slice e4 e5 e6] 25))) := Lib.hid ((Bel.refl w).alloc (Nat.le_refl _) _)
  go_enter Tryd.func35, Tryd.ntmps35
  go_upto_region 1 with (fail)
  obtain ⟨W1, hW⟩ : ∃ X, w.alloc (.cells #[.int .i64 kd, .slice e1 e2 e3, .slice e4 e5 e6] 25) = X := ⟨_, rfl⟩
  rw [hW] at S HB ⊢
  obtain ⟨gs, hg⟩ : ∃ X, w.heap.size = X := ⟨_, rfl⟩
  have HGS := Lib.hid hg
  rw [hg] at S ⊢
  clear hW hg
  obtain ⟨s0, s1, s2⟩ := Blk.cells3 S
  have HSB := Lib.hid S
  clear S
  have HC1 := Lib.hid (HCK.out W1 (by have := HB.out.size; have := HBB.out; omega) (by have := HB.out.size; have := HW2.out; omega) (HS.out.keep (KeepB.bel HB.out)) (HF.out.bel HB.out))
  obtain ⟨ck, hck⟩ : ∃ k, MShape.check s = k := ⟨_, rfl⟩
  have HCE := Lib.hid hck
  rw [hck] at HC1
  clear hck HCK
  by_cases hz : ck = 0
  · subst hz
    go_upto_region 3 with (go_at_call 21; refine (HC1.out).mono ?_; rintro e W2 ⟨rfl, hb2⟩)
    have HB2 := Lib.hid (bthen HB.out hb2)
    have HSB2 := Lib.hid (Blk.bel HSB.out hb2)
    clear s0 s1 s2 hb2 HC1
    go_upto_region 4 with (fail)
    have G := Blk.new W2 #[.slice none 0 0, .bool o] 92
    have HB3 := Lib.hid (HB2.out.alloc HB2.out.size (.cells #[.slice none 0 0, .bool o] 92))
    have S3 := Blk.alloc HSB2.out (.cells #[.slice none 0 0, .bool o] 92)
    have HG2 := Lib.hid (show w.heap.size ≤ W2.heap.size from HB2.out.size)
    have HB23 : Hid (Bel W2 (W2.alloc (.cells #[.slice none 0 0, .bool o] 92))) := Lib.hid ((Bel.refl W2).alloc (Nat.le_refl _) _)
    have HST : Hid (St W2 W2.heap.size o [] (W2.alloc (.cells #[.slice none 0 0, .bool o] 92))) := Lib.hid ⟨_, G, RB.nil _ _, HB23.out, Nat.le_refl _⟩
    obtain ⟨W3, hW⟩ : ∃ X, W2.alloc (.cells #[.slice none 0 0, .bool o] 92) = X := ⟨_, rfl⟩
    rw [hW] at G HB3 S3 HB23 HST ⊢
    obtain ⟨g, hg⟩ : ∃ X, W2.heap.size = X := ⟨_, rfl⟩
    have HGE := Lib.hid hg
    rw [hg] at G HST ⊢
    clear hW hg
    obtain ⟨s0, s1, s2⟩ := Blk.cells3 S3
    have HCW := Lib.hid (HWS.out W2 g [] W3 (by have := HG2.out; have := HW2.out; omega) (HN.out.below HW2.out HB2.out) ((HS.out.keep (KeepB.bel HB3.out)).mono (by have := HG2.out; have := HBB.out; omega)) HST.out (by
      have h1 := MShape.light_is (check_light HCE.out)
      have h2 := MWkb.enc_len o s
      simp only [List.length_nil]
      omega))
    clear G S3
    go_upto_region 5 with (go_at_call 61; refine (HCW.out).mono ?_; rintro e W4 ⟨rfl, h4⟩)
    obtain ⟨⟨v, hG4, hR4, hB4, _⟩, hK4⟩ := h4.out
    have g0 : W4.cell? ⟨g, 0, none⟩ = some v := Blk.cell hG4 0 rfl
    obtain ⟨A9, n9, c9, hv⟩ := RB.sl hR4
    subst hv
    have HR4 := Lib.hid hR4
    have HB4 := Lib.hid hB4
    clear hG4 hR4 hB4 hK4
    go_wp2
    go_ret
    exact ⟨_, rfl, by unfold encB; rw [if_pos HCE.out]; exact HR4.out.lower HG2.out, bthen HB2.out HB4.out⟩
  · have hz1 : (ck == 0) = false := by simpa using hz
    go_upto_region 3 with (go_at_call 21; refine (HC1.out).mono ?_; rintro e W2 ⟨rfl, hb2⟩)
    · go_ret
      exact ⟨_, rfl, by unfold encB; rw [if_neg (by rw [HCE.out]; exact hz)]; exact RB.nil _ _, bthen HB.out hb2⟩
end Go.Proofs.YtfknhpgelleenaaDoor.K
end
