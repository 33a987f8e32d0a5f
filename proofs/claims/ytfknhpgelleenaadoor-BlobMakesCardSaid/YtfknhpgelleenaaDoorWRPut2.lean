/- The reference's put: a shape as bytes. -/
import Derived.Test.YtfknhpgelleenaaDoorKB
import Derived.Handy
import Derived.Test.YtfknhpgelleenaaDoorKM
import Derived.Test.YtfknhpgelleenaaDoorMWkb
import Derived.Test.YtfknhpgelleenaaDoorKO
import Derived.Test.YtfknhpgelleenaaDoorWShp
import Derived.Test.YtfknhpgelleenaaDoorWPts
import Derived.Test.YtfknhpgelleenaaDoorWRPut1
import Derived.IntWalk
namespace Go.Proofs.YtfknhpgelleenaaDoor.K
open Go Go.RowKit Go.Proofs.YtfknhpgelleenaaDoorW.PrintWords Go.Proofs.YtfknhpgelleenaaDoorW.PrintLast Go.Proofs.YtfknhpgelleenaaDoorW.PrintMore
set_option linter.unusedVariables false
set_option linter.unusedSimpArgs false
open Go.Proofs.YtfknhpgelleenaaDoor.MShape (Sh flats)
section
variable {ops : Array Oper} {rest : List Oper} {oo : Oper} {a : Act} {Q : Exit → Act → World → Prop}
theorem appNg {w0 W : World} (s x : Operand) (hgd : oo.guard = none) (ho : oo.op = .call { callee := .builtin .append, args := #[s, x], argTypes := #[49, 49] })
    (v : Value) (xs ys : List Int) (A : Option Addr) (c : Nat) (hs : a.eval s = v) (hx : a.eval x = .slice A ys.length c)
    (HO : RB w0 W v xs) (HR : CB W A ys) (HB : Below w0.heap.size w0 W) (hl : xs.length + ys.length < 140737488355328)
    (h : ∀ v1 w1, Hid (RB w0 w1 v1 (xs ++ ys)) → Hid (Below w0.heap.size w0 w1) → Hid (W.grownBy w1 v.ownBlock) → wpList Tryd.prog ops Q rest (a.put oo.dst v1) w1) :
    wpList Tryd.prog ops Q (oo :: rest) a W :=
  Kd.R_append_rows (Kd.int .u8) (w0 := w0) w0.heap.size hgd s x 49 5 (.int .u8 0) 1 ho Tryd.underlying49 infoB rfl (by decide) (by omega) v xs ys A ys.length c (fun _ => True) (fun _ => False) hs hx HO HR
    (fun x cs hk => hk) (fun _ hk => hk.elim) (fun _ _ => trivial) HB HB.size (by omega) (fun v1 w1 ho hb hg hat => h v1 w1 (Lib.hid ho) (Lib.hid hb) (Lib.hid hg))
end
/-- What a call of put tells. -/
def PuC (D : Nat) : Prop := ∀ (s : Sh) (c : Value × Value × Value) (o : Bool) (w : World) (B : Nat), B ≤ w.heap.size → ShB B w D c s → (MWkb.enc o s).length + 9 < 140737488355328 →
    Calls Tryd.prog 62 #[.agg #[c.1, c.2.1, c.2.2], .bool o] w fun e w' => ∃ v, e = .returned v ∧ Hid (RB w w' v (MWkb.enc o s)) ∧ Hid (Bel w w')
set_option maxHeartbeats 4000000 in
set_option maxRecDepth 100000 in
theorem rput_calls : ∀ D : Nat, PuC D := by
  intro D
  induction D with
  | zero => intro s c o w B _ h; exact h.elim
  | succ D ih =>
    intro s c o w B hB hs hlen
    have IH := Lib.hid ih
    clear ih
    obtain ⟨kind, pts, ps⟩ := s
    obtain ⟨e0, hpts, cs, hcs, ⟨a2, c2, e2, _, hm2, hx2⟩, hsub⟩ := hs
    have hpts' := hpts
    obtain ⟨a1, c1, e1, hc1, hm1, hx1⟩ := hpts
    obtain ⟨v0, v1, v2⟩ := c
    simp only at e0 e1 e2 hpts'
    subst e0 e1 e2
    dsimp only
    have HX1 := Lib.hid hx1
    have HX2 := Lib.hid hx2
    have HSUB := Lib.hid hsub
    have HCS := Lib.hid hcs
    have HPT := Lib.hid hpts'
    have HBB := Lib.hid hB
    have henc : MWkb.enc o (.mk kind pts ps) = MWkb.mark o :: (MWkb.nm kind 4 o ++ (if kind = 1 then MWkb.pt o (pts.headD MWkb.nw) else if kind = 2 then MWkb.run o pts else MWkb.nm ps.length 4 o ++ (if kind = 3 then MWkb.ringsE o ps else MWkb.encs o ps))) := by first | rfl | (conv => lhs; unfold MWkb.enc)
    have HENC := Lib.hid henc
    have HLEN := Lib.hid hlen
    obtain ⟨E, hE⟩ : ∃ l, MWkb.enc o (.mk kind pts ps) = l := ⟨_, rfl⟩
    rw [hE] at HENC HLEN ⊢
    clear hx1 hx2 hsub hcs hpts' hc1 hlen henc hE hB
    have S := Blk.new w #[.int .i64 kind, .slice a1 pts.length c1, .slice a2 cs.length c2] 25
    have HB : Hid (Bel w (w.alloc (.cells #[.int .i64 kind, .slice a1 pts.length c1, .slice a2 cs.length c2] 25))) := Lib.hid ((Bel.refl w).alloc (Nat.le_refl _) _)
    go_enter Tryd.func62, Tryd.ntmps62
    go_upto_region 1 with (fail)
    obtain ⟨W1, hW⟩ : ∃ X, w.alloc (.cells #[.int .i64 kind, .slice a1 pts.length c1, .slice a2 cs.length c2] 25) = X := ⟨_, rfl⟩
    rw [hW] at S HB ⊢
    obtain ⟨gs, hb⟩ : ∃ X, w.heap.size = X := ⟨_, rfl⟩
    have HGS := Lib.hid hb
    rw [hb] at S ⊢
    clear hW hb
    have HS1 := Lib.hid S
    clear S
    cases o
    · have RL : RB w (W1.alloc (.cells #[.int .u8 0] 5)) (.slice (some ⟨W1.heap.size, 0, none⟩) 1 1) [0] := RB.lit [0] HB.out.size (by simp [maxLen])
      have HBL : Hid (Bel W1 (W1.alloc (.cells #[.int .u8 0] 5))) := Lib.hid ((Bel.refl W1).alloc (Nat.le_refl _) _)
      go_upto_region 4 with (fail)
      obtain ⟨W2, hW⟩ : ∃ X, W1.alloc (.cells #[.int .u8 0] 5) = X := ⟨_, rfl⟩
      rw [hW] at RL HBL ⊢
      obtain ⟨gl, hg⟩ : ∃ X, W1.heap.size = X := ⟨_, rfl⟩
      rw [hg] at RL ⊢
      clear hW hg
      have HRL := Lib.hid (Kd.R_reads' RL).2.2
      have HU0 := Lib.hid (u64w kind)
      have HU3 := Lib.hid (u64w cs.length)
      obtain ⟨s0, s1, s2⟩ := Blk.cells3 (Blk.bel HS1.out HBL.out)
      have HN1 := Lib.hid (ref02_Put_calls (some ⟨gl, 0, none⟩) 1 [0] (MWkb.u64 kind) 4 false W2 (HRL.out) (by simp) (by simp) (MWkb.u64_in _).1 (MWkb.u64_in _).2)
      have hu := HU0.out
      go_upto_region 5 with (go_at_call 70; refine (HN1.out).mono ?_; rintro e W5 ⟨v5, rfl, hr5, hb5⟩)
      clear hu
      have HB5 := Lib.hid (bthen HB.out (bthen HBL.out hb5))
      have HR5 : Hid (RB w W5 v5 ([0] ++ MWkb.nm kind 4 false)) := Lib.hid (hr5.lower (bthen HB.out HBL.out).size)
      have HB15 := Lib.hid (Blk.bel HS1.out (bthen HBL.out hb5))
      clear s0 s1 s2 hr5 hb5 HN1
      obtain ⟨s0, s1, s2⟩ := Blk.cells3 HB15.out
      have HKB := Lib.hid (KeepB.bel (B := B) HB5.out)
      have HTOT0 : Hid (∀ body, (if kind = 1 then MWkb.pt false (pts.headD MWkb.nw) else if kind = 2 then MWkb.run false pts else MWkb.nm ps.length 4 false ++ (if kind = 3 then MWkb.ringsE false ps else MWkb.encs false ps)) = body → E = ([0] ++ MWkb.nm kind 4 false) ++ body) := Lib.hid (fun body hb => by rw [HENC.out, hb]; simp [MWkb.mark])
      obtain ⟨L5, hL5⟩ : ∃ L, [0] ++ MWkb.nm kind 4 false = L := ⟨_, rfl⟩
      rw [hL5] at HR5 HTOT0
      clear hL5
      obtain ⟨A9, c9, hv9, hc9, hC9⟩ := HR5.out.reads
      obtain ⟨n9, hn9⟩ : ∃ n, L5.length = n := ⟨_, rfl⟩
      have HN9 := Lib.hid hn9
      rw [hn9] at hv9 hc9
      have HC9 := Lib.hid hC9
      have HCC := Lib.hid hc9
      clear hC9 hc9 hn9
      subst hv9
      by_cases hk1 : kind = 1
      · subst hk1
        have HTOT := Lib.hid (HTOT0.out _ (if_pos rfl))
        have HPL : Hid (L5.length + 25 < 140737488355328) := Lib.hid (by have := HLEN.out; rw [HTOT.out, List.length_append, MWkb.pt_len] at this; omega)
        have h11 : ((1 : Int) == 1) = true := rfl
        cases pts with
        | nil =>
          go_upto_region 8 with (fail)
          have S9 := Blk.new W5 #[.int .i64 (-9223372036854775808), .int .i64 (-9223372036854775808)] 41
          have S8 := Blk.alloc HB15.out (.cells #[.int .i64 (-9223372036854775808), .int .i64 (-9223372036854775808)] 41)
          have HB59 : Hid (Bel W5 (W5.alloc (.cells #[.int .i64 (-9223372036854775808), .int .i64 (-9223372036854775808)] 41))) := Lib.hid ((Bel.refl W5).alloc (Nat.le_refl _) _)
          obtain ⟨w5, hW⟩ : ∃ X, W5.alloc (.cells #[.int .i64 (-9223372036854775808), .int .i64 (-9223372036854775808)] 41) = X := ⟨_, rfl⟩
          rw [hW] at S9 S8 HB59 ⊢
          obtain ⟨gp, hg⟩ : ∃ X, W5.heap.size = X := ⟨_, rfl⟩
          rw [hg] at S9 ⊢
          clear hW hg s0 s1 s2
          obtain ⟨s0, s1, s2⟩ := Blk.cells3 S8
          clear S8
          go_upto_region 10 with (fail)
          clear s0 s1 s2
          have HP5 := Lib.hid S9
          clear S9
          have HTOT : Hid (E = L5 ++ MWkb.pt false (-9223372036854775808, -9223372036854775808)) := HTOT
          obtain ⟨px, hpx⟩ : ∃ x : Int, (-9223372036854775808) = x := ⟨_, rfl⟩
          obtain ⟨py, hpy⟩ : ∃ x : Int, (-9223372036854775808) = x := ⟨_, rfl⟩
          have HP5 : Hid (Blk w5 gp #[.int .i64 px, .int .i64 py] 41) := by rw [hpy] at HP5; subst hpx; subst hpy; exact HP5
          have HTOT : Hid (E = L5 ++ MWkb.pt false (px, py)) := by subst hpx; subst hpy; exact HTOT
          clear hpx hpy
          have HU1 := Lib.hid (u64w px)
          have HU2 := Lib.hid (u64w py)
          have HPU1 : Hid (∀ W, Below w5.heap.size w5 W → Calls Tryd.prog 70 #[.slice A9 n9 c9, .int .u64 (MWkb.u64 px), .int .i64 8, .bool false] W fun e w' => ∃ v, e = .returned v ∧ RB W w' v (L5 ++ MWkb.nm px 8 false) ∧ Below W.heap.size W w') := Lib.hid (fun W h => by
            have h9 := ref02_Put_calls A9 c9 L5 (MWkb.u64 px) 8 false W (HC9.out.below (bthen HB59.out h)) (by rw [HN9.out]; exact HCC.out) (by have := HPL.out; omega) (MWkb.u64_in _).1 (MWkb.u64_in _).2
            rw [HN9.out] at h9
            exact h9)
          have HPU2 : Hid (∀ (W : World) (A6 : Option Addr) (c6 : Nat), CB W A6 (L5 ++ MWkb.nm px 8 false) → (L5 ++ MWkb.nm px 8 false).length ≤ c6 → Calls Tryd.prog 70 #[.slice A6 (L5 ++ MWkb.nm px 8 false).length c6, .int .u64 (MWkb.u64 py), .int .i64 8, .bool false] W fun e w' => ∃ v, e = .returned v ∧ RB W w' v (L5 ++ MWkb.nm px 8 false ++ MWkb.nm py 8 false) ∧ Below W.heap.size W w') := Lib.hid (fun W A6 c6 h1 h2 => ref02_Put_calls A6 c6 (L5 ++ MWkb.nm px 8 false) (MWkb.u64 py) 8 false W h1 h2 (by rw [List.length_append, MWkb.nm8]; have := HPL.out; omega) (MWkb.u64_in _).1 (MWkb.u64_in _).2)
          refine Reg.region_mono (P := Tryd.prog) (Ext := Bel) (R := fun i v W => match i with
              | 0 => v = .slice A9 n9 c9
              | 1 => v = .pointer (some ⟨gp, 0, none⟩)
              | 2 => v = .int .i64 px
              | 3 => v = .int .u64 (MWkb.u64 px)
              | 4 => v = .bool false
              | 5 => RB w5 W v (L5 ++ MWkb.nm px 8 false)
              | 6 => v = .pointer (some ⟨gp, 1, none⟩)
              | 7 => v = .int .i64 py
              | 8 => v = .int .u64 (MWkb.u64 py)
              | 9 => v = .bool false
              | 10 => RB w5 W v (L5 ++ MWkb.nm px 8 false ++ MWkb.nm py 8 false)
              | 11 => RB w5 W v (L5 ++ MWkb.nm px 8 false ++ MWkb.nm py 8 false)
              | _ => True) (fun W => Below w5.heap.size w5 W) rfl (by kernel_rfl) (by kernel_rfl) (Bel.drew w5) (fun W W' h h' => bthen h h') Bel.refl (by intro j v W W' hx h; split at h <;> first | exact h | exact RB.below h hx) ?_ ?_
          · intro i oi hoi a W hW need old
            match i, hoi with
            | 0, hoi =>
              simp only [List.getElem?_toArray, List.getElem?_cons_succ, List.getElem?_cons_zero, Option.some.injEq] at hoi
              subst hoi
              refine Reg.ob_plain rfl ?_
              have e5 : a.eval (.tmp 5) = .slice A9 n9 c9 := old 5 (by kernel_rfl)
              refine Reg.wp_val (W' := W) (v := _) (by simp only [execOp, e5, Reg.eval_const]; rfl) ⟨_, rfl, Bel.refl W, rfl⟩
            | 1, hoi =>
              simp only [List.getElem?_toArray, List.getElem?_cons_succ, List.getElem?_cons_zero, Option.some.injEq] at hoi
              subst hoi
              refine Reg.ob_plain rfl ?_
              have e6 : a.eval (.tmp 6) = .pointer (some ⟨gp, 0, none⟩) := old 6 (by kernel_rfl)
              refine Reg.wp_val (W' := W) (v := .pointer (some ⟨gp, 0, none⟩)) (by simp only [execOp, e6, Reg.eval_const, resolve, invoke, builtin, List.map_toArray, List.map_cons, List.map_nil, Option.map_some, Option.map_none]; (first | rfl | go_simp | (go_simp; rfl))) ⟨_, rfl, Bel.refl W, rfl⟩
            | 2, hoi =>
              simp only [List.getElem?_toArray, List.getElem?_cons_succ, List.getElem?_cons_zero, Option.some.injEq] at hoi
              subst hoi
              refine Reg.ob_plain rfl ?_
              have e32 : a.eval (.tmp 32) = .pointer (some ⟨gp, 0, none⟩) := need 1 _ 32 rfl rfl (by kernel_rfl)
              have c0 : W.cell? ⟨gp, 0, none⟩ = some (.int .i64 px) := Blk.cell (Blk.bel HP5.out hW) 0 rfl
              refine Reg.wp_val (W' := W) (v := .int .i64 px) (by simp only [execOp, e32, Reg.eval_const, resolve, invoke, builtin, List.map_toArray, List.map_cons, List.map_nil, Option.map_some, Option.map_none]; (first | rfl | go_simp | (go_simp; rfl))) ⟨_, rfl, Bel.refl W, rfl⟩
            | 3, hoi =>
              simp only [List.getElem?_toArray, List.getElem?_cons_succ, List.getElem?_cons_zero, Option.some.injEq] at hoi
              subst hoi
              refine Reg.ob_plain rfl ?_
              have e33 : a.eval (.tmp 33) = .int .i64 px := need 2 _ 33 rfl rfl (by kernel_rfl)
              have hx := HU1.out
              refine Reg.wp_val (W' := W) (v := .int .u64 (MWkb.u64 px)) (by simp only [execOp, e33, Reg.eval_const, resolve, invoke, builtin, List.map_toArray, List.map_cons, List.map_nil, Option.map_some, Option.map_none]; (first | rfl | go_simp | (go_simp; rfl))) ⟨_, rfl, Bel.refl W, rfl⟩
            | 4, hoi =>
              simp only [List.getElem?_toArray, List.getElem?_cons_succ, List.getElem?_cons_zero, Option.some.injEq] at hoi
              subst hoi
              refine Reg.ob_plain rfl ?_
              have e1 : a.eval (.tmp 1) = .bool false := old 1 (by kernel_rfl)
              refine Reg.wp_val (W' := W) (v := _) (by simp only [execOp, e1, Reg.eval_const]; rfl) ⟨_, rfl, Bel.refl W, rfl⟩
            | 5, hoi =>
              simp only [List.getElem?_toArray, List.getElem?_cons_succ, List.getElem?_cons_zero, Option.some.injEq] at hoi
              subst hoi
              refine Reg.ob_plain rfl ?_
              have e31 : a.eval (.tmp 31) = .slice A9 n9 c9 := need 0 _ 31 rfl rfl (by kernel_rfl)
              have e34 : a.eval (.tmp 34) = .int .u64 (MWkb.u64 px) := need 3 _ 34 rfl rfl (by kernel_rfl)
              have e35 : a.eval (.tmp 35) = .bool false := need 4 _ 35 rfl rfl (by kernel_rfl)
              refine Reg.wp_call (f := 70) (args := #[.slice A9 n9 c9, .int .u64 (MWkb.u64 px), .int .i64 8, .bool false]) (by simp only [execOp, e31, e34, e35, Reg.eval_const, resolve, invoke, List.map_toArray, List.map_cons, List.map_nil]; go_simp) ?_
              refine (HPU1.out W hW).mono ?_
              rintro e W' ⟨v, rfl, hr, hb⟩; exact ⟨v, rfl, v, rfl, hb, hr.lower hW.size⟩
            | 6, hoi =>
              simp only [List.getElem?_toArray, List.getElem?_cons_succ, List.getElem?_cons_zero, Option.some.injEq] at hoi
              subst hoi
              refine Reg.ob_plain rfl ?_
              have e6 : a.eval (.tmp 6) = .pointer (some ⟨gp, 0, none⟩) := old 6 (by kernel_rfl)
              refine Reg.wp_val (W' := W) (v := .pointer (some ⟨gp, 1, none⟩)) (by simp only [execOp, e6, Reg.eval_const, resolve, invoke, builtin, List.map_toArray, List.map_cons, List.map_nil, Option.map_some, Option.map_none]; (first | rfl | go_simp | (go_simp; rfl))) ⟨_, rfl, Bel.refl W, rfl⟩
            | 7, hoi =>
              simp only [List.getElem?_toArray, List.getElem?_cons_succ, List.getElem?_cons_zero, Option.some.injEq] at hoi
              subst hoi
              refine Reg.ob_plain rfl ?_
              have e37 : a.eval (.tmp 37) = .pointer (some ⟨gp, 1, none⟩) := need 6 _ 37 rfl rfl (by kernel_rfl)
              have c0 : W.cell? ⟨gp, 1, none⟩ = some (.int .i64 py) := Blk.cell (Blk.bel HP5.out hW) 1 rfl
              refine Reg.wp_val (W' := W) (v := .int .i64 py) (by simp only [execOp, e37, Reg.eval_const, resolve, invoke, builtin, List.map_toArray, List.map_cons, List.map_nil, Option.map_some, Option.map_none]; (first | rfl | go_simp | (go_simp; rfl))) ⟨_, rfl, Bel.refl W, rfl⟩
            | 8, hoi =>
              simp only [List.getElem?_toArray, List.getElem?_cons_succ, List.getElem?_cons_zero, Option.some.injEq] at hoi
              subst hoi
              refine Reg.ob_plain rfl ?_
              have e38 : a.eval (.tmp 38) = .int .i64 py := need 7 _ 38 rfl rfl (by kernel_rfl)
              have hx := HU2.out
              refine Reg.wp_val (W' := W) (v := .int .u64 (MWkb.u64 py)) (by simp only [execOp, e38, Reg.eval_const, resolve, invoke, builtin, List.map_toArray, List.map_cons, List.map_nil, Option.map_some, Option.map_none]; (first | rfl | go_simp | (go_simp; rfl))) ⟨_, rfl, Bel.refl W, rfl⟩
            | 9, hoi =>
              simp only [List.getElem?_toArray, List.getElem?_cons_succ, List.getElem?_cons_zero, Option.some.injEq] at hoi
              subst hoi
              refine Reg.ob_plain rfl ?_
              have e1 : a.eval (.tmp 1) = .bool false := old 1 (by kernel_rfl)
              refine Reg.wp_val (W' := W) (v := _) (by simp only [execOp, e1, Reg.eval_const]; rfl) ⟨_, rfl, Bel.refl W, rfl⟩
            | 10, hoi =>
              simp only [List.getElem?_toArray, List.getElem?_cons_succ, List.getElem?_cons_zero, Option.some.injEq] at hoi
              subst hoi
              refine Reg.ob_plain rfl ?_
              have r36 := need 5 _ 36 rfl rfl (by kernel_rfl)
              simp only at r36
              obtain ⟨x36, e36⟩ : ∃ x, a.eval (.tmp 36) = x := ⟨_, rfl⟩
              rw [← Reg.eval_tmp, e36] at r36
              have e39 : a.eval (.tmp 39) = .int .u64 (MWkb.u64 py) := need 8 _ 39 rfl rfl (by kernel_rfl)
              have e40 : a.eval (.tmp 40) = .bool false := need 9 _ 40 rfl rfl (by kernel_rfl)
              obtain ⟨A6, c6, hx6, hc6, hC6⟩ := r36.reads
              subst hx6
              refine Reg.wp_call (f := 70) (args := #[.slice A6 (L5 ++ MWkb.nm px 8 false).length c6, .int .u64 (MWkb.u64 py), .int .i64 8, .bool false]) (by simp only [execOp, e36, e39, e40, Reg.eval_const, resolve, invoke, List.map_toArray, List.map_cons, List.map_nil]; go_simp) ?_
              refine (HPU2.out W A6 c6 hC6 hc6).mono ?_
              rintro e W' ⟨v, rfl, hr, hb⟩; exact ⟨v, rfl, v, rfl, hb, hr.lower hW.size⟩
            | 11, hoi =>
              simp only [List.getElem?_toArray, List.getElem?_cons_succ, List.getElem?_cons_zero, Option.some.injEq] at hoi
              subst hoi
              refine Reg.ob_plain rfl ?_
              have r41 := need 10 _ 41 rfl rfl (by kernel_rfl)
              simp only at r41
              obtain ⟨x41, e41⟩ : ∃ x, a.eval (.tmp 41) = x := ⟨_, rfl⟩
              rw [← Reg.eval_tmp, e41] at r41
              refine Reg.wp_val (W' := W) (v := _) (by simp only [execOp, e41, Reg.eval_const]; rfl) ⟨_, rfl, Bel.refl W, r41⟩
            | n + 12, hoi => simp at hoi
          · intro a w9 hW hsize hdef got same did
            have ha := Reg.act_of [31, 32, 33, 34, 35, 36, 37, 38, 39, 40, 41, 4] hsize hdef same (by kernel_rfl)
            simp only [List.foldl_cons, List.foldl_nil] at ha
            generalize a.tmps.getD 31 undef = y31 at ha
            generalize a.tmps.getD 32 undef = y32 at ha
            generalize a.tmps.getD 33 undef = y33 at ha
            generalize a.tmps.getD 34 undef = y34 at ha
            generalize a.tmps.getD 35 undef = y35 at ha
            generalize a.tmps.getD 36 undef = y36 at ha
            generalize a.tmps.getD 37 undef = y37 at ha
            generalize a.tmps.getD 38 undef = y38 at ha
            generalize a.tmps.getD 39 undef = y39 at ha
            generalize a.tmps.getD 40 undef = y40 at ha
            generalize a.tmps.getD 41 undef = y41 at ha
            have k4 := got 11 _ 4 rfl rfl
            simp only at k4
            generalize a.tmps.getD 4 undef = y4 at ha k4
            clear got same hsize hdef did
            subst ha
            simp only [List.setIfInBounds_toArray, List.set_cons_zero, List.set_cons_succ]
            go_wp2
            go_ret
            exact ⟨_, rfl, by rw [HTOT.out]; show RB w w9 _ (L5 ++ (MWkb.nm px 8 false ++ MWkb.nm py 8 false)); rw [← List.append_assoc]; exact RB.lower k4 (bthen HB5.out HB59.out).size, bthen HB5.out (bthen HB59.out hW)⟩
        | cons p pts =>
          obtain ⟨b, off, rfl, hbB, x0, x1⟩ := HX1.out 0 (by simp)
          have x0 := HKB.out.cell hbB x0
          have x1 := HKB.out.cell hbB x1
          obtain ⟨px, py⟩ := p
          have x0 : W5.cell? ⟨b, off, none⟩ = some (.int .i64 px) := x0
          have x1 : W5.cell? ⟨b, off + 1, none⟩ = some (.int .i64 py) := x1
          have x0 := kc ((Bel.refl W5).alloc (Nat.le_refl _) (.cells #[.int .i64 (-9223372036854775808), .int .i64 (-9223372036854775808)] 41)) x0
          have x1 := kc ((Bel.refl W5).alloc (Nat.le_refl _) (.cells #[.int .i64 (-9223372036854775808), .int .i64 (-9223372036854775808)] 41)) x1
          have hz2 : (0 : Int) < ((((px, py) :: pts).length : Nat) : Int) := by simp <;> omega
          obtain ⟨n, hn⟩ : ∃ n, ((px, py) :: pts).length = n := ⟨_, rfl⟩
          rw [hn] at hz2 s1 HB15 ⊢
          clear hn s0 s1 s2
          obtain ⟨s0, s1, s2⟩ := Blk.cells3 HB15.out
          go_upto_region 8 with (fail)
          have S9 := Blk.new W5 #[.int .i64 (-9223372036854775808), .int .i64 (-9223372036854775808)] 41
          have S8 := Blk.alloc HB15.out (.cells #[.int .i64 (-9223372036854775808), .int .i64 (-9223372036854775808)] 41)
          have HB58 : Hid (Bel W5 (W5.alloc (.cells #[.int .i64 (-9223372036854775808), .int .i64 (-9223372036854775808)] 41))) := Lib.hid ((Bel.refl W5).alloc (Nat.le_refl _) _)
          obtain ⟨w4, hW⟩ : ∃ X, W5.alloc (.cells #[.int .i64 (-9223372036854775808), .int .i64 (-9223372036854775808)] 41) = X := ⟨_, rfl⟩
          rw [hW] at S9 S8 HB58 x0 x1 ⊢
          obtain ⟨gp, hg⟩ : ∃ X, W5.heap.size = X := ⟨_, rfl⟩
          have HGP := Lib.hid hg
          rw [hg] at S9 ⊢
          clear hW hg s0 s1 s2
          obtain ⟨s0, s1, s2⟩ := Blk.cells3 S8
          have q0 : w4.cell? ⟨gp, 0, none⟩ = some (.int .i64 (-9223372036854775808)) := Blk.cell S9 0 rfl
          have q1 : w4.cell? ⟨gp, 1, none⟩ = some (.int .i64 (-9223372036854775808)) := Blk.cell S9 1 rfl
          have f0 := S9.froz 0
          have f1 := S9.froz 1
          have HS9 := Lib.hid S9
          clear S8 S9
          go_upto_region 10 with (fail)
          have HP5 : Hid (Blk ((w4.setCell ⟨gp, 0, none⟩ (.int .i64 px)).setCell ⟨gp, 1, none⟩ (.int .i64 py)) gp #[.int .i64 px, .int .i64 py] 41) := Lib.hid ((HS9.out.set 0 _).set 1 _)
          have HB59 : Hid (Bel W5 ((w4.setCell ⟨gp, 0, none⟩ (.int .i64 px)).setCell ⟨gp, 1, none⟩ (.int .i64 py))) := Lib.hid (below_set (below_set HB58.out (by rw [HGP.out]; omega) _) (by rw [HGP.out]; omega) _)
          obtain ⟨w5, hW⟩ : ∃ X, (w4.setCell ⟨gp, 0, none⟩ (.int .i64 px)).setCell ⟨gp, 1, none⟩ (.int .i64 py) = X := ⟨_, rfl⟩
          rw [hW] at HP5 HB59 ⊢
          clear hW s0 s1 s2 q0 q1 f0 f1 x0 x1 HS9
          have HU1 := Lib.hid (u64w px)
          have HU2 := Lib.hid (u64w py)
          have HPU1 : Hid (∀ W, Below w5.heap.size w5 W → Calls Tryd.prog 70 #[.slice A9 n9 c9, .int .u64 (MWkb.u64 px), .int .i64 8, .bool false] W fun e w' => ∃ v, e = .returned v ∧ RB W w' v (L5 ++ MWkb.nm px 8 false) ∧ Below W.heap.size W w') := Lib.hid (fun W h => by
            have h9 := ref02_Put_calls A9 c9 L5 (MWkb.u64 px) 8 false W (HC9.out.below (bthen HB59.out h)) (by rw [HN9.out]; exact HCC.out) (by have := HPL.out; omega) (MWkb.u64_in _).1 (MWkb.u64_in _).2
            rw [HN9.out] at h9
            exact h9)
          have HPU2 : Hid (∀ (W : World) (A6 : Option Addr) (c6 : Nat), CB W A6 (L5 ++ MWkb.nm px 8 false) → (L5 ++ MWkb.nm px 8 false).length ≤ c6 → Calls Tryd.prog 70 #[.slice A6 (L5 ++ MWkb.nm px 8 false).length c6, .int .u64 (MWkb.u64 py), .int .i64 8, .bool false] W fun e w' => ∃ v, e = .returned v ∧ RB W w' v (L5 ++ MWkb.nm px 8 false ++ MWkb.nm py 8 false) ∧ Below W.heap.size W w') := Lib.hid (fun W A6 c6 h1 h2 => ref02_Put_calls A6 c6 (L5 ++ MWkb.nm px 8 false) (MWkb.u64 py) 8 false W h1 h2 (by rw [List.length_append, MWkb.nm8]; have := HPL.out; omega) (MWkb.u64_in _).1 (MWkb.u64_in _).2)
          refine Reg.region_mono (P := Tryd.prog) (Ext := Bel) (R := fun i v W => match i with
              | 0 => v = .slice A9 n9 c9
              | 1 => v = .pointer (some ⟨gp, 0, none⟩)
              | 2 => v = .int .i64 px
              | 3 => v = .int .u64 (MWkb.u64 px)
              | 4 => v = .bool false
              | 5 => RB w5 W v (L5 ++ MWkb.nm px 8 false)
              | 6 => v = .pointer (some ⟨gp, 1, none⟩)
              | 7 => v = .int .i64 py
              | 8 => v = .int .u64 (MWkb.u64 py)
              | 9 => v = .bool false
              | 10 => RB w5 W v (L5 ++ MWkb.nm px 8 false ++ MWkb.nm py 8 false)
              | 11 => RB w5 W v (L5 ++ MWkb.nm px 8 false ++ MWkb.nm py 8 false)
              | _ => True) (fun W => Below w5.heap.size w5 W) rfl (by kernel_rfl) (by kernel_rfl) (Bel.drew w5) (fun W W' h h' => bthen h h') Bel.refl (by intro j v W W' hx h; split at h <;> first | exact h | exact RB.below h hx) ?_ ?_
          · intro i oi hoi a W hW need old
            match i, hoi with
            | 0, hoi =>
              simp only [List.getElem?_toArray, List.getElem?_cons_succ, List.getElem?_cons_zero, Option.some.injEq] at hoi
              subst hoi
              refine Reg.ob_plain rfl ?_
              have e5 : a.eval (.tmp 5) = .slice A9 n9 c9 := old 5 (by kernel_rfl)
              refine Reg.wp_val (W' := W) (v := _) (by simp only [execOp, e5, Reg.eval_const]; rfl) ⟨_, rfl, Bel.refl W, rfl⟩
            | 1, hoi =>
              simp only [List.getElem?_toArray, List.getElem?_cons_succ, List.getElem?_cons_zero, Option.some.injEq] at hoi
              subst hoi
              refine Reg.ob_plain rfl ?_
              have e6 : a.eval (.tmp 6) = .pointer (some ⟨gp, 0, none⟩) := old 6 (by kernel_rfl)
              refine Reg.wp_val (W' := W) (v := .pointer (some ⟨gp, 0, none⟩)) (by simp only [execOp, e6, Reg.eval_const, resolve, invoke, builtin, List.map_toArray, List.map_cons, List.map_nil, Option.map_some, Option.map_none]; (first | rfl | go_simp | (go_simp; rfl))) ⟨_, rfl, Bel.refl W, rfl⟩
            | 2, hoi =>
              simp only [List.getElem?_toArray, List.getElem?_cons_succ, List.getElem?_cons_zero, Option.some.injEq] at hoi
              subst hoi
              refine Reg.ob_plain rfl ?_
              have e32 : a.eval (.tmp 32) = .pointer (some ⟨gp, 0, none⟩) := need 1 _ 32 rfl rfl (by kernel_rfl)
              have c0 : W.cell? ⟨gp, 0, none⟩ = some (.int .i64 px) := Blk.cell (Blk.bel HP5.out hW) 0 rfl
              refine Reg.wp_val (W' := W) (v := .int .i64 px) (by simp only [execOp, e32, Reg.eval_const, resolve, invoke, builtin, List.map_toArray, List.map_cons, List.map_nil, Option.map_some, Option.map_none]; (first | rfl | go_simp | (go_simp; rfl))) ⟨_, rfl, Bel.refl W, rfl⟩
            | 3, hoi =>
              simp only [List.getElem?_toArray, List.getElem?_cons_succ, List.getElem?_cons_zero, Option.some.injEq] at hoi
              subst hoi
              refine Reg.ob_plain rfl ?_
              have e33 : a.eval (.tmp 33) = .int .i64 px := need 2 _ 33 rfl rfl (by kernel_rfl)
              have hx := HU1.out
              refine Reg.wp_val (W' := W) (v := .int .u64 (MWkb.u64 px)) (by simp only [execOp, e33, Reg.eval_const, resolve, invoke, builtin, List.map_toArray, List.map_cons, List.map_nil, Option.map_some, Option.map_none]; (first | rfl | go_simp | (go_simp; rfl))) ⟨_, rfl, Bel.refl W, rfl⟩
            | 4, hoi =>
              simp only [List.getElem?_toArray, List.getElem?_cons_succ, List.getElem?_cons_zero, Option.some.injEq] at hoi
              subst hoi
              refine Reg.ob_plain rfl ?_
              have e1 : a.eval (.tmp 1) = .bool false := old 1 (by kernel_rfl)
              refine Reg.wp_val (W' := W) (v := _) (by simp only [execOp, e1, Reg.eval_const]; rfl) ⟨_, rfl, Bel.refl W, rfl⟩
            | 5, hoi =>
              simp only [List.getElem?_toArray, List.getElem?_cons_succ, List.getElem?_cons_zero, Option.some.injEq] at hoi
              subst hoi
              refine Reg.ob_plain rfl ?_
              have e31 : a.eval (.tmp 31) = .slice A9 n9 c9 := need 0 _ 31 rfl rfl (by kernel_rfl)
              have e34 : a.eval (.tmp 34) = .int .u64 (MWkb.u64 px) := need 3 _ 34 rfl rfl (by kernel_rfl)
              have e35 : a.eval (.tmp 35) = .bool false := need 4 _ 35 rfl rfl (by kernel_rfl)
              refine Reg.wp_call (f := 70) (args := #[.slice A9 n9 c9, .int .u64 (MWkb.u64 px), .int .i64 8, .bool false]) (by simp only [execOp, e31, e34, e35, Reg.eval_const, resolve, invoke, List.map_toArray, List.map_cons, List.map_nil]; go_simp) ?_
              refine (HPU1.out W hW).mono ?_
              rintro e W' ⟨v, rfl, hr, hb⟩; exact ⟨v, rfl, v, rfl, hb, hr.lower hW.size⟩
            | 6, hoi =>
              simp only [List.getElem?_toArray, List.getElem?_cons_succ, List.getElem?_cons_zero, Option.some.injEq] at hoi
              subst hoi
              refine Reg.ob_plain rfl ?_
              have e6 : a.eval (.tmp 6) = .pointer (some ⟨gp, 0, none⟩) := old 6 (by kernel_rfl)
              refine Reg.wp_val (W' := W) (v := .pointer (some ⟨gp, 1, none⟩)) (by simp only [execOp, e6, Reg.eval_const, resolve, invoke, builtin, List.map_toArray, List.map_cons, List.map_nil, Option.map_some, Option.map_none]; (first | rfl | go_simp | (go_simp; rfl))) ⟨_, rfl, Bel.refl W, rfl⟩
            | 7, hoi =>
              simp only [List.getElem?_toArray, List.getElem?_cons_succ, List.getElem?_cons_zero, Option.some.injEq] at hoi
              subst hoi
              refine Reg.ob_plain rfl ?_
              have e37 : a.eval (.tmp 37) = .pointer (some ⟨gp, 1, none⟩) := need 6 _ 37 rfl rfl (by kernel_rfl)
              have c0 : W.cell? ⟨gp, 1, none⟩ = some (.int .i64 py) := Blk.cell (Blk.bel HP5.out hW) 1 rfl
              refine Reg.wp_val (W' := W) (v := .int .i64 py) (by simp only [execOp, e37, Reg.eval_const, resolve, invoke, builtin, List.map_toArray, List.map_cons, List.map_nil, Option.map_some, Option.map_none]; (first | rfl | go_simp | (go_simp; rfl))) ⟨_, rfl, Bel.refl W, rfl⟩
            | 8, hoi =>
              simp only [List.getElem?_toArray, List.getElem?_cons_succ, List.getElem?_cons_zero, Option.some.injEq] at hoi
              subst hoi
              refine Reg.ob_plain rfl ?_
              have e38 : a.eval (.tmp 38) = .int .i64 py := need 7 _ 38 rfl rfl (by kernel_rfl)
              have hx := HU2.out
              refine Reg.wp_val (W' := W) (v := .int .u64 (MWkb.u64 py)) (by simp only [execOp, e38, Reg.eval_const, resolve, invoke, builtin, List.map_toArray, List.map_cons, List.map_nil, Option.map_some, Option.map_none]; (first | rfl | go_simp | (go_simp; rfl))) ⟨_, rfl, Bel.refl W, rfl⟩
            | 9, hoi =>
              simp only [List.getElem?_toArray, List.getElem?_cons_succ, List.getElem?_cons_zero, Option.some.injEq] at hoi
              subst hoi
              refine Reg.ob_plain rfl ?_
              have e1 : a.eval (.tmp 1) = .bool false := old 1 (by kernel_rfl)
              refine Reg.wp_val (W' := W) (v := _) (by simp only [execOp, e1, Reg.eval_const]; rfl) ⟨_, rfl, Bel.refl W, rfl⟩
            | 10, hoi =>
              simp only [List.getElem?_toArray, List.getElem?_cons_succ, List.getElem?_cons_zero, Option.some.injEq] at hoi
              subst hoi
              refine Reg.ob_plain rfl ?_
              have r36 := need 5 _ 36 rfl rfl (by kernel_rfl)
              simp only at r36
              obtain ⟨x36, e36⟩ : ∃ x, a.eval (.tmp 36) = x := ⟨_, rfl⟩
              rw [← Reg.eval_tmp, e36] at r36
              have e39 : a.eval (.tmp 39) = .int .u64 (MWkb.u64 py) := need 8 _ 39 rfl rfl (by kernel_rfl)
              have e40 : a.eval (.tmp 40) = .bool false := need 9 _ 40 rfl rfl (by kernel_rfl)
              obtain ⟨A6, c6, hx6, hc6, hC6⟩ := r36.reads
              subst hx6
              refine Reg.wp_call (f := 70) (args := #[.slice A6 (L5 ++ MWkb.nm px 8 false).length c6, .int .u64 (MWkb.u64 py), .int .i64 8, .bool false]) (by simp only [execOp, e36, e39, e40, Reg.eval_const, resolve, invoke, List.map_toArray, List.map_cons, List.map_nil]; go_simp) ?_
              refine (HPU2.out W A6 c6 hC6 hc6).mono ?_
              rintro e W' ⟨v, rfl, hr, hb⟩; exact ⟨v, rfl, v, rfl, hb, hr.lower hW.size⟩
            | 11, hoi =>
              simp only [List.getElem?_toArray, List.getElem?_cons_succ, List.getElem?_cons_zero, Option.some.injEq] at hoi
              subst hoi
              refine Reg.ob_plain rfl ?_
              have r41 := need 10 _ 41 rfl rfl (by kernel_rfl)
              simp only at r41
              obtain ⟨x41, e41⟩ : ∃ x, a.eval (.tmp 41) = x := ⟨_, rfl⟩
              rw [← Reg.eval_tmp, e41] at r41
              refine Reg.wp_val (W' := W) (v := _) (by simp only [execOp, e41, Reg.eval_const]; rfl) ⟨_, rfl, Bel.refl W, r41⟩
            | n + 12, hoi => simp at hoi
          · intro a w9 hW hsize hdef got same did
            have ha := Reg.act_of [31, 32, 33, 34, 35, 36, 37, 38, 39, 40, 41, 4] hsize hdef same (by kernel_rfl)
            simp only [List.foldl_cons, List.foldl_nil] at ha
            generalize a.tmps.getD 31 undef = y31 at ha
            generalize a.tmps.getD 32 undef = y32 at ha
            generalize a.tmps.getD 33 undef = y33 at ha
            generalize a.tmps.getD 34 undef = y34 at ha
            generalize a.tmps.getD 35 undef = y35 at ha
            generalize a.tmps.getD 36 undef = y36 at ha
            generalize a.tmps.getD 37 undef = y37 at ha
            generalize a.tmps.getD 38 undef = y38 at ha
            generalize a.tmps.getD 39 undef = y39 at ha
            generalize a.tmps.getD 40 undef = y40 at ha
            generalize a.tmps.getD 41 undef = y41 at ha
            have k4 := got 11 _ 4 rfl rfl
            simp only at k4
            generalize a.tmps.getD 4 undef = y4 at ha k4
            clear got same hsize hdef did
            subst ha
            simp only [List.setIfInBounds_toArray, List.set_cons_zero, List.set_cons_succ]
            go_wp2
            go_ret
            exact ⟨_, rfl, by rw [HTOT.out]; show RB w w9 _ (L5 ++ (MWkb.nm px 8 false ++ MWkb.nm py 8 false)); rw [← List.append_assoc]; exact RB.lower k4 (bthen HB5.out HB59.out).size, bthen HB5.out (bthen HB59.out hW)⟩
      have hk1' : (kind == 1) = false := by simpa using hk1
      by_cases hk2 : kind = 2
      · subst hk2
        have HTOT := Lib.hid (HTOT0.out _ (by rw [if_neg (by omega), if_pos rfl]))
        have HPC : Hid (Calls Tryd.prog 86 #[.slice A9 n9 c9, .slice a1 pts.length c1, .bool false] W5 fun e w' => ∃ v, e = .returned v ∧ Hid (RB W5 w' v (L5 ++ MWkb.run false pts)) ∧ Hid (Bel W5 w')) := Lib.hid (by
          have h9 := rpoints_calls A9 c9 L5 (.slice a1 pts.length c1) pts false W5 B (by have := HB5.out.size; have := HBB.out; omega) HC9.out (by rw [HN9.out]; exact HCC.out) (HPT.out.keep HKB.out) (by have := HLEN.out; rw [HTOT.out, List.length_append] at this; omega)
          rw [HN9.out] at h9
          exact h9)
        go_wp2_with (go_at_call 86; refine (HPC.out).mono ?_; rintro e W7 ⟨v7, rfl, hr7, hb7⟩)
        go_ret
        exact ⟨_, rfl, by rw [HTOT.out]; exact hr7.out.lower HB5.out.size, bthen HB5.out hb7.out⟩
      have hk2' : (kind == 2) = false := by simpa using hk2
      have hcl : Hid ((cs.length : Int) = (ps.length : Int)) := Lib.hid (by have := HCS.out; omega)
      have HN6 : Hid (Calls Tryd.prog 70 #[.slice A9 n9 c9, .int .u64 (MWkb.u64 cs.length), .int .i64 4, .bool false] W5 fun e w' => ∃ v, e = .returned v ∧ RB W5 w' v (L5 ++ MWkb.nm ps.length 4 false) ∧ Below W5.heap.size W5 w') := Lib.hid (by
        have h9 := ref02_Put_calls A9 c9 L5 (MWkb.u64 cs.length) 4 false W5 HC9.out (by rw [HN9.out]; exact HCC.out) (by
          have h1 := HLEN.out
          have h2 := HTOT0.out _ rfl
          rw [h2, List.length_append] at h1
          omega) (MWkb.u64_in _).1 (MWkb.u64_in _).2
        rw [HN9.out, hcl.out] at h9
        rw [hcl.out]
        exact h9)
      have hu3 := HU3.out
      go_upto_region 14 with (go_at_call 70; refine (HN6.out).mono ?_; rintro e W6 ⟨v6, rfl, hr6, hb6⟩)
      clear hu3
      have HR6 := Lib.hid (hr6.lower (w0 := w) HB5.out.size)
      have HB6 := Lib.hid (bthen HB5.out hb6)
      have HB16 := Lib.hid (Blk.bel HB15.out hb6)
      clear hr6 hb6 s0 s1 s2
      obtain ⟨s0, s1, s2⟩ := Blk.cells3 HB16.out
      have HTOT1 : Hid (E = L5 ++ (MWkb.nm ps.length 4 false ++ (if kind = 3 then MWkb.ringsE false ps else MWkb.encs false ps))) := Lib.hid (HTOT0.out _ (by rw [if_neg hk1, if_neg hk2]))
      clear hk1 hk2 hk1' hk2'
      go_wp2
      clear s0 s1 s2
      by_cases hk3 : kind = 3
      · have hk3b : (kind == 3) = true := by simp [hk3]
        have HTOT := Lib.hid (HTOT1.out)
        rw [if_pos hk3] at HTOT
        clear hk3
        go_loopw [5, 59] (fun bv i wr => ∃ (k : Nat), i = .int .i64 k ∧ k ≤ cs.length ∧ Hid (RB w wr bv (L5 ++ (MWkb.nm ps.length 4 false ++ MWkb.ringsE false (ps.take k)))) ∧ Hid (Bel w wr) ∧ Hid (Blk wr gs #[.int .i64 kind, .slice a1 pts.length c1, .slice a2 cs.length c2] 25)) (fun _ i _ => cs.length - (intOf i).toNat)
        case atStart => exact ⟨0, rfl, by omega, Lib.hid (by rw [List.take_zero, show MWkb.ringsE false [] = [] by simp [MWkb.ringsE], List.append_nil]; exact HR6.out), HB6, HB16⟩
        case round =>
          obtain ⟨k, rfl, hk, HRk, HBk, HGk⟩ := hrel
          by_cases hlt : k < cs.length
          · obtain ⟨b, off, rfl, hbB, x0, x1, x2⟩ := HX2.out k hlt
            have hpk : k < ps.length := by have := HCS.out; omega
            have KB : KeepB B w wr := KeepB.bel HBk.out
            have x0 := KB.cell hbB x0
            have x1 := KB.cell hbB x1
            have x2 := KB.cell hbB x2
            have hsh := (HSUB.out k cs[k] ps[k] (List.getElem?_eq_getElem hlt) (List.getElem?_eq_getElem hpk)).keep KB
            have htk := MWkb.ringsE_take (o := false) hpk
            have hle := MWkb.ringsE_take_le false ps (k + 1)
            obtain ⟨xk, hxk⟩ : ∃ x, cs[k] = x := ⟨_, rfl⟩
            obtain ⟨pk, hpk2⟩ : ∃ x, ps[k] = x := ⟨_, rfl⟩
            rw [hxk] at x0 x1 x2 hsh
            rw [hpk2] at hsh htk
            obtain ⟨kind', u1, u2, u3, u4, u5, u6, rfl⟩ := hsh.forms
            dsimp only at x0 x1 x2
            have HTK := Lib.hid htk
            have HLT := Lib.hid hlt
            obtain ⟨L, hL⟩ : ∃ L, L5 ++ (MWkb.nm ps.length 4 false ++ MWkb.ringsE false (ps.take k)) = L := ⟨_, rfl⟩
            have HLL : Hid (L.length + (MWkb.run false (MWkb.ptsOf pk)).length + 9 < 140737488355328) := Lib.hid (by
              rw [htk, List.length_append] at hle
              have := HLEN.out
              rw [HTOT.out, List.length_append, List.length_append] at this
              rw [← hL, List.length_append, List.length_append]
              omega)
            have HLE := Lib.hid hL
            rw [hL] at HRk
            have HSH := Lib.hid hsh
            have HSZ := Lib.hid (show B ≤ wr.heap.size by have := HBk.out.size; have := HBB.out; omega)
            clear hxk hpk2 hsh KB hpk htk hle hL
            obtain ⟨A7, c7, hv7, hc7, hC7⟩ := HRk.out.reads
            obtain ⟨n7, hn7⟩ : ∃ n, L.length = n := ⟨_, rfl⟩
            have HN7 := Lib.hid hn7
            rw [hn7] at hv7 hc7
            have HC7 := Lib.hid hC7
            have HCC7 := Lib.hid hc7
            clear hC7 hc7 hn7
            subst hv7
            have S8 := HGk.out
            have P := Blk.new wr #[.int .i64 kind', .slice u1 u2 u3, .slice u4 u5 u6] 25
            have S9 := Blk.alloc S8 (.cells #[.int .i64 kind', .slice u1 u2 u3, .slice u4 u5 u6] 25)
            have HB9 : Hid (Bel wr (wr.alloc (.cells #[.int .i64 kind', .slice u1 u2 u3, .slice u4 u5 u6] 25))) := Lib.hid ((Bel.refl wr).alloc (Nat.le_refl _) _)
            clear S8
            go_upto_region 17 with (fail)
            obtain ⟨w9, hW⟩ : ∃ X, wr.alloc (.cells #[.int .i64 kind', .slice u1 u2 u3, .slice u4 u5 u6] 25) = X := ⟨_, rfl⟩
            rw [hW] at P S9 HB9 ⊢
            obtain ⟨gp, hg⟩ : ∃ X, wr.heap.size = X := ⟨_, rfl⟩
            rw [hg] at P ⊢
            clear hW hg x0 x1 x2
            obtain ⟨p0, p1, p2⟩ := Blk.cells3 P
            obtain ⟨s0, s1, s2⟩ := Blk.cells3 S9
            have HS9 := Lib.hid S9
            clear P S9
            have HPC : Hid (Calls Tryd.prog 86 #[.slice A7 n7 c7, .slice u1 u2 u3, .bool false] w9 fun e w' => ∃ v, e = .returned v ∧ Hid (RB w9 w' v (L ++ MWkb.run false (MWkb.ptsOf pk))) ∧ Hid (Bel w9 w')) := Lib.hid (by
              have h9 := rpoints_calls A7 c7 L (.slice u1 u2 u3) (MWkb.ptsOf pk) false w9 B (by have := HB9.out.size; have := HSZ.out; omega) (HC7.out.below HB9.out) (by rw [HN7.out]; exact HCC7.out) (by have h9 := HSH.out.keep (KeepB.bel HB9.out); cases D with | zero => exact h9.elim | succ D => cases pk; exact h9.2.1) HLL.out
              rw [HN7.out] at h9
              exact h9)
            go_wp2_with (go_at_call 86; refine (HPC.out).mono ?_; rintro e w8 ⟨v8, rfl, h8, hb8⟩)
            have HRF := Lib.hid (h8.out.lower (w0 := w) (bthen HBk.out HB9.out).size)
            have HBF := Lib.hid (bthen HBk.out (bthen HB9.out hb8.out))
            have HGF := Lib.hid (Blk.bel HS9.out hb8.out)
            go_roundw
            case rel => exact ⟨k + 1, by go_num, by have := HLT.out; omega, Lib.hid (by rw [HTK.out, ← List.append_assoc (MWkb.nm ps.length 4 false), ← List.append_assoc L5, HLE.out]; exact HRF.out), HBF, HGF⟩
            case measure => (have := HLT.out; simp [intOf] <;> omega)
          · have : k = cs.length := by omega
            subst this
            have htk : ps.take cs.length = ps := by rw [HCS.out, List.take_length]
            clear hlt hk
            go_wp2
            go_ret
            exact ⟨_, rfl, by rw [HTOT.out]; have h9 := HRk.out; rw [htk] at h9; exact h9, HBk.out⟩
      · have hk3b : (kind == 3) = false := by simp [hk3]
        have HTOT := Lib.hid (HTOT1.out)
        rw [if_neg hk3] at HTOT
        clear hk3
        go_loopw [5, 59] (fun bv i wr => ∃ (k : Nat), i = .int .i64 k ∧ k ≤ cs.length ∧ Hid (RB w wr bv (L5 ++ (MWkb.nm ps.length 4 false ++ MWkb.encs false (ps.take k)))) ∧ Hid (Bel w wr) ∧ Hid (Blk wr gs #[.int .i64 kind, .slice a1 pts.length c1, .slice a2 cs.length c2] 25)) (fun _ i _ => cs.length - (intOf i).toNat)
        case atStart => exact ⟨0, rfl, by omega, Lib.hid (by rw [List.take_zero, show MWkb.encs false [] = [] by simp [MWkb.encs], List.append_nil]; exact HR6.out), HB6, HB16⟩
        case round =>
          obtain ⟨k, rfl, hk, HRk, HBk, HGk⟩ := hrel
          by_cases hlt : k < cs.length
          · obtain ⟨b, off, rfl, hbB, x0, x1, x2⟩ := HX2.out k hlt
            have hpk : k < ps.length := by have := HCS.out; omega
            have KB : KeepB B w wr := KeepB.bel HBk.out
            have x0 := KB.cell hbB x0
            have x1 := KB.cell hbB x1
            have x2 := KB.cell hbB x2
            have hsh := (HSUB.out k cs[k] ps[k] (List.getElem?_eq_getElem hlt) (List.getElem?_eq_getElem hpk)).keep KB
            have htk := MWkb.encs_take (o := false) hpk
            have hle := MWkb.encs_take_le false ps (k + 1)
            obtain ⟨xk, hxk⟩ : ∃ x, cs[k] = x := ⟨_, rfl⟩
            obtain ⟨pk, hpk2⟩ : ∃ x, ps[k] = x := ⟨_, rfl⟩
            rw [hxk] at x0 x1 x2 hsh
            rw [hpk2] at hsh htk
            obtain ⟨kind', u1, u2, u3, u4, u5, u6, rfl⟩ := hsh.forms
            dsimp only at x0 x1 x2
            have HTK := Lib.hid htk
            have HLT := Lib.hid hlt
            obtain ⟨L, hL⟩ : ∃ L, L5 ++ (MWkb.nm ps.length 4 false ++ MWkb.encs false (ps.take k)) = L := ⟨_, rfl⟩
            have HLL : Hid (L.length + (MWkb.enc false pk).length + 9 < 140737488355328) := Lib.hid (by
              rw [htk, List.length_append] at hle
              have := HLEN.out
              rw [HTOT.out, List.length_append, List.length_append] at this
              rw [← hL, List.length_append, List.length_append]
              omega)
            have HLE := Lib.hid hL
            rw [hL] at HRk
            have HSH := Lib.hid hsh
            have HSZ := Lib.hid (show B ≤ wr.heap.size by have := HBk.out.size; have := HBB.out; omega)
            clear hxk hpk2 hsh KB hpk htk hle hL
            obtain ⟨A7, c7, hv7, hc7, hC7⟩ := HRk.out.reads
            obtain ⟨n7, hn7⟩ : ∃ n, L.length = n := ⟨_, rfl⟩
            have HN7 := Lib.hid hn7
            rw [hn7] at hv7 hc7
            have HC7 := Lib.hid hC7
            have HCC7 := Lib.hid hc7
            clear hC7 hc7 hn7
            subst hv7
            have S8 := HGk.out
            have P := Blk.new wr #[.int .i64 kind', .slice u1 u2 u3, .slice u4 u5 u6] 25
            have S9 := Blk.alloc S8 (.cells #[.int .i64 kind', .slice u1 u2 u3, .slice u4 u5 u6] 25)
            have HB9 : Hid (Bel wr (wr.alloc (.cells #[.int .i64 kind', .slice u1 u2 u3, .slice u4 u5 u6] 25))) := Lib.hid ((Bel.refl wr).alloc (Nat.le_refl _) _)
            clear S8
            go_upto_region 17 with (fail)
            obtain ⟨w9, hW⟩ : ∃ X, wr.alloc (.cells #[.int .i64 kind', .slice u1 u2 u3, .slice u4 u5 u6] 25) = X := ⟨_, rfl⟩
            rw [hW] at P S9 HB9 ⊢
            obtain ⟨gp, hg⟩ : ∃ X, wr.heap.size = X := ⟨_, rfl⟩
            rw [hg] at P ⊢
            clear hW hg x0 x1 x2
            obtain ⟨p0, p1, p2⟩ := Blk.cells3 P
            obtain ⟨s0, s1, s2⟩ := Blk.cells3 S9
            have HS9 := Lib.hid S9
            clear P S9
            have HPC := Lib.hid (IH.out pk _ false w9 B (by have := HB9.out.size; have := HSZ.out; omega) (HSH.out.keep (KeepB.bel HB9.out)) (by have := HLL.out; omega))
            go_wp2_with (first
              | (at_builtin; refine appNg (w0 := w) (.tmp 71) (.tmp 74) rfl rfl (.slice A7 n7 c7) L (MWkb.enc false pk) A8 c8 rfl rfl HR8.out HC8.out HB8.out (by have := HLL.out; omega) ?_; intro v6' w6' HRF HBF HGR)
              | (go_at_call 62; refine (HPC.out).mono ?_; rintro e w8 ⟨v8, rfl, h8, hb8⟩; obtain ⟨A8, c8, hv8, hc8, hC8⟩ := h8.out.reads; subst hv8; have HC8 := Lib.hid hC8; have HR8 := Lib.hid (HRk.out.below (bthen HB9.out hb8.out)); have HB8 := Lib.hid (bthen HBk.out (bthen HB9.out hb8.out))))
            have HGF : Hid (Blk w6' gs _ 25) := Lib.hid ((HGR.out.block gs (Blk.lt (Blk.bel HS9.out hb8.out)) (Kd.R_ne HR8.out (Blk.bel HS9.out hb8.out) (by decide))).trans (Blk.bel HS9.out hb8.out))
            go_roundw
            case rel => exact ⟨k + 1, by go_num, by have := HLT.out; omega, Lib.hid (by rw [HTK.out, ← List.append_assoc (MWkb.nm ps.length 4 false), ← List.append_assoc L5, HLE.out]; exact HRF.out), HBF, HGF⟩
            case measure => (have := HLT.out; simp [intOf] <;> omega)
          · have : k = cs.length := by omega
            subst this
            have htk : ps.take cs.length = ps := by rw [HCS.out, List.take_length]
            clear hlt hk
            go_wp2
            go_ret
            exact ⟨_, rfl, by rw [HTOT.out]; have h9 := HRk.out; rw [htk] at h9; exact h9, HBk.out⟩
    · have RL : RB w ((W1.alloc (.cells #[.int .u8 0] 5)).alloc (.cells #[.int .u8 1] 5)) (.slice (some ⟨(W1.alloc (.cells #[.int .u8 0] 5)).heap.size, 0, none⟩) 1 1) [1] := RB.lit [1] (by have := HB.out.size; simp; omega) (by simp [maxLen])
      have HBL : Hid (Bel W1 ((W1.alloc (.cells #[.int .u8 0] 5)).alloc (.cells #[.int .u8 1] 5))) := Lib.hid (((Bel.refl W1).alloc (Nat.le_refl _) _).alloc (by simp) _)
      go_upto_region 4 with (fail)
      obtain ⟨W2, hW⟩ : ∃ X, (W1.alloc (.cells #[.int .u8 0] 5)).alloc (.cells #[.int .u8 1] 5) = X := ⟨_, rfl⟩
      rw [hW] at RL HBL ⊢
      obtain ⟨gl, hg⟩ : ∃ X, (W1.alloc (.cells #[.int .u8 0] 5)).heap.size = X := ⟨_, rfl⟩
      have hg2 : W1.heap.size + 1 = gl := by rw [← hg]; simp
      rw [hg] at RL
      rw [hg2]
      clear hW hg hg2
      have HRL := Lib.hid (Kd.R_reads' RL).2.2
      have HU0 := Lib.hid (u64w kind)
      have HU3 := Lib.hid (u64w cs.length)
      obtain ⟨s0, s1, s2⟩ := Blk.cells3 (Blk.bel HS1.out HBL.out)
      have HN1 := Lib.hid (ref02_Put_calls (some ⟨gl, 0, none⟩) 1 [1] (MWkb.u64 kind) 4 true W2 (HRL.out) (by simp) (by simp) (MWkb.u64_in _).1 (MWkb.u64_in _).2)
      have hu := HU0.out
      go_upto_region 5 with (go_at_call 70; refine (HN1.out).mono ?_; rintro e W5 ⟨v5, rfl, hr5, hb5⟩)
      clear hu
      have HB5 := Lib.hid (bthen HB.out (bthen HBL.out hb5))
      have HR5 : Hid (RB w W5 v5 ([1] ++ MWkb.nm kind 4 true)) := Lib.hid (hr5.lower (bthen HB.out HBL.out).size)
      have HB15 := Lib.hid (Blk.bel HS1.out (bthen HBL.out hb5))
      clear s0 s1 s2 hr5 hb5 HN1
      obtain ⟨s0, s1, s2⟩ := Blk.cells3 HB15.out
      have HKB := Lib.hid (KeepB.bel (B := B) HB5.out)
      have HTOT0 : Hid (∀ body, (if kind = 1 then MWkb.pt true (pts.headD MWkb.nw) else if kind = 2 then MWkb.run true pts else MWkb.nm ps.length 4 true ++ (if kind = 3 then MWkb.ringsE true ps else MWkb.encs true ps)) = body → E = ([1] ++ MWkb.nm kind 4 true) ++ body) := Lib.hid (fun body hb => by rw [HENC.out, hb]; simp [MWkb.mark])
      obtain ⟨L5, hL5⟩ : ∃ L, [1] ++ MWkb.nm kind 4 true = L := ⟨_, rfl⟩
      rw [hL5] at HR5 HTOT0
      clear hL5
      obtain ⟨A9, c9, hv9, hc9, hC9⟩ := HR5.out.reads
      obtain ⟨n9, hn9⟩ : ∃ n, L5.length = n := ⟨_, rfl⟩
      have HN9 := Lib.hid hn9
      rw [hn9] at hv9 hc9
      have HC9 := Lib.hid hC9
      have HCC := Lib.hid hc9
      clear hC9 hc9 hn9
      subst hv9
      by_cases hk1 : kind = 1
      · subst hk1
        have HTOT := Lib.hid (HTOT0.out _ (if_pos rfl))
        have HPL : Hid (L5.length + 25 < 140737488355328) := Lib.hid (by have := HLEN.out; rw [HTOT.out, List.length_append, MWkb.pt_len] at this; omega)
        have h11 : ((1 : Int) == 1) = true := rfl
        cases pts with
        | nil =>
          go_upto_region 8 with (fail)
          have S9 := Blk.new W5 #[.int .i64 (-9223372036854775808), .int .i64 (-9223372036854775808)] 41
          have S8 := Blk.alloc HB15.out (.cells #[.int .i64 (-9223372036854775808), .int .i64 (-9223372036854775808)] 41)
          have HB59 : Hid (Bel W5 (W5.alloc (.cells #[.int .i64 (-9223372036854775808), .int .i64 (-9223372036854775808)] 41))) := Lib.hid ((Bel.refl W5).alloc (Nat.le_refl _) _)
          obtain ⟨w5, hW⟩ : ∃ X, W5.alloc (.cells #[.int .i64 (-9223372036854775808), .int .i64 (-9223372036854775808)] 41) = X := ⟨_, rfl⟩
          rw [hW] at S9 S8 HB59 ⊢
          obtain ⟨gp, hg⟩ : ∃ X, W5.heap.size = X := ⟨_, rfl⟩
          rw [hg] at S9 ⊢
          clear hW hg s0 s1 s2
          obtain ⟨s0, s1, s2⟩ := Blk.cells3 S8
          clear S8
          go_upto_region 10 with (fail)
          clear s0 s1 s2
          have HP5 := Lib.hid S9
          clear S9
          have HTOT : Hid (E = L5 ++ MWkb.pt true (-9223372036854775808, -9223372036854775808)) := HTOT
          obtain ⟨px, hpx⟩ : ∃ x : Int, (-9223372036854775808) = x := ⟨_, rfl⟩
          obtain ⟨py, hpy⟩ : ∃ x : Int, (-9223372036854775808) = x := ⟨_, rfl⟩
          have HP5 : Hid (Blk w5 gp #[.int .i64 px, .int .i64 py] 41) := by rw [hpy] at HP5; subst hpx; subst hpy; exact HP5
          have HTOT : Hid (E = L5 ++ MWkb.pt true (px, py)) := by subst hpx; subst hpy; exact HTOT
          clear hpx hpy
          have HU1 := Lib.hid (u64w px)
          have HU2 := Lib.hid (u64w py)
          have HPU1 : Hid (∀ W, Below w5.heap.size w5 W → Calls Tryd.prog 70 #[.slice A9 n9 c9, .int .u64 (MWkb.u64 px), .int .i64 8, .bool true] W fun e w' => ∃ v, e = .returned v ∧ RB W w' v (L5 ++ MWkb.nm px 8 true) ∧ Below W.heap.size W w') := Lib.hid (fun W h => by
            have h9 := ref02_Put_calls A9 c9 L5 (MWkb.u64 px) 8 true W (HC9.out.below (bthen HB59.out h)) (by rw [HN9.out]; exact HCC.out) (by have := HPL.out; omega) (MWkb.u64_in _).1 (MWkb.u64_in _).2
            rw [HN9.out] at h9
            exact h9)
          have HPU2 : Hid (∀ (W : World) (A6 : Option Addr) (c6 : Nat), CB W A6 (L5 ++ MWkb.nm px 8 true) → (L5 ++ MWkb.nm px 8 true).length ≤ c6 → Calls Tryd.prog 70 #[.slice A6 (L5 ++ MWkb.nm px 8 true).length c6, .int .u64 (MWkb.u64 py), .int .i64 8, .bool true] W fun e w' => ∃ v, e = .returned v ∧ RB W w' v (L5 ++ MWkb.nm px 8 true ++ MWkb.nm py 8 true) ∧ Below W.heap.size W w') := Lib.hid (fun W A6 c6 h1 h2 => ref02_Put_calls A6 c6 (L5 ++ MWkb.nm px 8 true) (MWkb.u64 py) 8 true W h1 h2 (by rw [List.length_append, MWkb.nm8]; have := HPL.out; omega) (MWkb.u64_in _).1 (MWkb.u64_in _).2)
          refine Reg.region_mono (P := Tryd.prog) (Ext := Bel) (R := fun i v W => match i with
              | 0 => v = .slice A9 n9 c9
              | 1 => v = .pointer (some ⟨gp, 0, none⟩)
              | 2 => v = .int .i64 px
              | 3 => v = .int .u64 (MWkb.u64 px)
              | 4 => v = .bool true
              | 5 => RB w5 W v (L5 ++ MWkb.nm px 8 true)
              | 6 => v = .pointer (some ⟨gp, 1, none⟩)
              | 7 => v = .int .i64 py
              | 8 => v = .int .u64 (MWkb.u64 py)
              | 9 => v = .bool true
              | 10 => RB w5 W v (L5 ++ MWkb.nm px 8 true ++ MWkb.nm py 8 true)
              | 11 => RB w5 W v (L5 ++ MWkb.nm px 8 true ++ MWkb.nm py 8 true)
              | _ => True) (fun W => Below w5.heap.size w5 W) rfl (by kernel_rfl) (by kernel_rfl) (Bel.drew w5) (fun W W' h h' => bthen h h') Bel.refl (by intro j v W W' hx h; split at h <;> first | exact h | exact RB.below h hx) ?_ ?_
          · intro i oi hoi a W hW need old
            match i, hoi with
            | 0, hoi =>
              simp only [List.getElem?_toArray, List.getElem?_cons_succ, List.getElem?_cons_zero, Option.some.injEq] at hoi
              subst hoi
              refine Reg.ob_plain rfl ?_
              have e5 : a.eval (.tmp 5) = .slice A9 n9 c9 := old 5 (by kernel_rfl)
              refine Reg.wp_val (W' := W) (v := _) (by simp only [execOp, e5, Reg.eval_const]; rfl) ⟨_, rfl, Bel.refl W, rfl⟩
            | 1, hoi =>
              simp only [List.getElem?_toArray, List.getElem?_cons_succ, List.getElem?_cons_zero, Option.some.injEq] at hoi
              subst hoi
              refine Reg.ob_plain rfl ?_
              have e6 : a.eval (.tmp 6) = .pointer (some ⟨gp, 0, none⟩) := old 6 (by kernel_rfl)
              refine Reg.wp_val (W' := W) (v := .pointer (some ⟨gp, 0, none⟩)) (by simp only [execOp, e6, Reg.eval_const, resolve, invoke, builtin, List.map_toArray, List.map_cons, List.map_nil, Option.map_some, Option.map_none]; (first | rfl | go_simp | (go_simp; rfl))) ⟨_, rfl, Bel.refl W, rfl⟩
            | 2, hoi =>
              simp only [List.getElem?_toArray, List.getElem?_cons_succ, List.getElem?_cons_zero, Option.some.injEq] at hoi
              subst hoi
              refine Reg.ob_plain rfl ?_
              have e32 : a.eval (.tmp 32) = .pointer (some ⟨gp, 0, none⟩) := need 1 _ 32 rfl rfl (by kernel_rfl)
              have c0 : W.cell? ⟨gp, 0, none⟩ = some (.int .i64 px) := Blk.cell (Blk.bel HP5.out hW) 0 rfl
              refine Reg.wp_val (W' := W) (v := .int .i64 px) (by simp only [execOp, e32, Reg.eval_const, resolve, invoke, builtin, List.map_toArray, List.map_cons, List.map_nil, Option.map_some, Option.map_none]; (first | rfl | go_simp | (go_simp; rfl))) ⟨_, rfl, Bel.refl W, rfl⟩
            | 3, hoi =>
              simp only [List.getElem?_toArray, List.getElem?_cons_succ, List.getElem?_cons_zero, Option.some.injEq] at hoi
              subst hoi
              refine Reg.ob_plain rfl ?_
              have e33 : a.eval (.tmp 33) = .int .i64 px := need 2 _ 33 rfl rfl (by kernel_rfl)
              have hx := HU1.out
              refine Reg.wp_val (W' := W) (v := .int .u64 (MWkb.u64 px)) (by simp only [execOp, e33, Reg.eval_const, resolve, invoke, builtin, List.map_toArray, List.map_cons, List.map_nil, Option.map_some, Option.map_none]; (first | rfl | go_simp | (go_simp; rfl))) ⟨_, rfl, Bel.refl W, rfl⟩
            | 4, hoi =>
              simp only [List.getElem?_toArray, List.getElem?_cons_succ, List.getElem?_cons_zero, Option.some.injEq] at hoi
              subst hoi
              refine Reg.ob_plain rfl ?_
              have e1 : a.eval (.tmp 1) = .bool true := old 1 (by kernel_rfl)
              refine Reg.wp_val (W' := W) (v := _) (by simp only [execOp, e1, Reg.eval_const]; rfl) ⟨_, rfl, Bel.refl W, rfl⟩
            | 5, hoi =>
              simp only [List.getElem?_toArray, List.getElem?_cons_succ, List.getElem?_cons_zero, Option.some.injEq] at hoi
              subst hoi
              refine Reg.ob_plain rfl ?_
              have e31 : a.eval (.tmp 31) = .slice A9 n9 c9 := need 0 _ 31 rfl rfl (by kernel_rfl)
              have e34 : a.eval (.tmp 34) = .int .u64 (MWkb.u64 px) := need 3 _ 34 rfl rfl (by kernel_rfl)
              have e35 : a.eval (.tmp 35) = .bool true := need 4 _ 35 rfl rfl (by kernel_rfl)
              refine Reg.wp_call (f := 70) (args := #[.slice A9 n9 c9, .int .u64 (MWkb.u64 px), .int .i64 8, .bool true]) (by simp only [execOp, e31, e34, e35, Reg.eval_const, resolve, invoke, List.map_toArray, List.map_cons, List.map_nil]; go_simp) ?_
              refine (HPU1.out W hW).mono ?_
              rintro e W' ⟨v, rfl, hr, hb⟩; exact ⟨v, rfl, v, rfl, hb, hr.lower hW.size⟩
            | 6, hoi =>
              simp only [List.getElem?_toArray, List.getElem?_cons_succ, List.getElem?_cons_zero, Option.some.injEq] at hoi
              subst hoi
              refine Reg.ob_plain rfl ?_
              have e6 : a.eval (.tmp 6) = .pointer (some ⟨gp, 0, none⟩) := old 6 (by kernel_rfl)
              refine Reg.wp_val (W' := W) (v := .pointer (some ⟨gp, 1, none⟩)) (by simp only [execOp, e6, Reg.eval_const, resolve, invoke, builtin, List.map_toArray, List.map_cons, List.map_nil, Option.map_some, Option.map_none]; (first | rfl | go_simp | (go_simp; rfl))) ⟨_, rfl, Bel.refl W, rfl⟩
            | 7, hoi =>
              simp only [List.getElem?_toArray, List.getElem?_cons_succ, List.getElem?_cons_zero, Option.some.injEq] at hoi
              subst hoi
              refine Reg.ob_plain rfl ?_
              have e37 : a.eval (.tmp 37) = .pointer (some ⟨gp, 1, none⟩) := need 6 _ 37 rfl rfl (by kernel_rfl)
              have c0 : W.cell? ⟨gp, 1, none⟩ = some (.int .i64 py) := Blk.cell (Blk.bel HP5.out hW) 1 rfl
              refine Reg.wp_val (W' := W) (v := .int .i64 py) (by simp only [execOp, e37, Reg.eval_const, resolve, invoke, builtin, List.map_toArray, List.map_cons, List.map_nil, Option.map_some, Option.map_none]; (first | rfl | go_simp | (go_simp; rfl))) ⟨_, rfl, Bel.refl W, rfl⟩
            | 8, hoi =>
              simp only [List.getElem?_toArray, List.getElem?_cons_succ, List.getElem?_cons_zero, Option.some.injEq] at hoi
              subst hoi
              refine Reg.ob_plain rfl ?_
              have e38 : a.eval (.tmp 38) = .int .i64 py := need 7 _ 38 rfl rfl (by kernel_rfl)
              have hx := HU2.out
              refine Reg.wp_val (W' := W) (v := .int .u64 (MWkb.u64 py)) (by simp only [execOp, e38, Reg.eval_const, resolve, invoke, builtin, List.map_toArray, List.map_cons, List.map_nil, Option.map_some, Option.map_none]; (first | rfl | go_simp | (go_simp; rfl))) ⟨_, rfl, Bel.refl W, rfl⟩
            | 9, hoi =>
              simp only [List.getElem?_toArray, List.getElem?_cons_succ, List.getElem?_cons_zero, Option.some.injEq] at hoi
              subst hoi
              refine Reg.ob_plain rfl ?_
              have e1 : a.eval (.tmp 1) = .bool true := old 1 (by kernel_rfl)
              refine Reg.wp_val (W' := W) (v := _) (by simp only [execOp, e1, Reg.eval_const]; rfl) ⟨_, rfl, Bel.refl W, rfl⟩
            | 10, hoi =>
              simp only [List.getElem?_toArray, List.getElem?_cons_succ, List.getElem?_cons_zero, Option.some.injEq] at hoi
              subst hoi
              refine Reg.ob_plain rfl ?_
              have r36 := need 5 _ 36 rfl rfl (by kernel_rfl)
              simp only at r36
              obtain ⟨x36, e36⟩ : ∃ x, a.eval (.tmp 36) = x := ⟨_, rfl⟩
              rw [← Reg.eval_tmp, e36] at r36
              have e39 : a.eval (.tmp 39) = .int .u64 (MWkb.u64 py) := need 8 _ 39 rfl rfl (by kernel_rfl)
              have e40 : a.eval (.tmp 40) = .bool true := need 9 _ 40 rfl rfl (by kernel_rfl)
              obtain ⟨A6, c6, hx6, hc6, hC6⟩ := r36.reads
              subst hx6
              refine Reg.wp_call (f := 70) (args := #[.slice A6 (L5 ++ MWkb.nm px 8 true).length c6, .int .u64 (MWkb.u64 py), .int .i64 8, .bool true]) (by simp only [execOp, e36, e39, e40, Reg.eval_const, resolve, invoke, List.map_toArray, List.map_cons, List.map_nil]; go_simp) ?_
              refine (HPU2.out W A6 c6 hC6 hc6).mono ?_
              rintro e W' ⟨v, rfl, hr, hb⟩; exact ⟨v, rfl, v, rfl, hb, hr.lower hW.size⟩
            | 11, hoi =>
              simp only [List.getElem?_toArray, List.getElem?_cons_succ, List.getElem?_cons_zero, Option.some.injEq] at hoi
              subst hoi
              refine Reg.ob_plain rfl ?_
              have r41 := need 10 _ 41 rfl rfl (by kernel_rfl)
              simp only at r41
              obtain ⟨x41, e41⟩ : ∃ x, a.eval (.tmp 41) = x := ⟨_, rfl⟩
              rw [← Reg.eval_tmp, e41] at r41
              refine Reg.wp_val (W' := W) (v := _) (by simp only [execOp, e41, Reg.eval_const]; rfl) ⟨_, rfl, Bel.refl W, r41⟩
            | n + 12, hoi => simp at hoi
          · intro a w9 hW hsize hdef got same did
            have ha := Reg.act_of [31, 32, 33, 34, 35, 36, 37, 38, 39, 40, 41, 4] hsize hdef same (by kernel_rfl)
            simp only [List.foldl_cons, List.foldl_nil] at ha
            generalize a.tmps.getD 31 undef = y31 at ha
            generalize a.tmps.getD 32 undef = y32 at ha
            generalize a.tmps.getD 33 undef = y33 at ha
            generalize a.tmps.getD 34 undef = y34 at ha
            generalize a.tmps.getD 35 undef = y35 at ha
            generalize a.tmps.getD 36 undef = y36 at ha
            generalize a.tmps.getD 37 undef = y37 at ha
            generalize a.tmps.getD 38 undef = y38 at ha
            generalize a.tmps.getD 39 undef = y39 at ha
            generalize a.tmps.getD 40 undef = y40 at ha
            generalize a.tmps.getD 41 undef = y41 at ha
            have k4 := got 11 _ 4 rfl rfl
            simp only at k4
            generalize a.tmps.getD 4 undef = y4 at ha k4
            clear got same hsize hdef did
            subst ha
            simp only [List.setIfInBounds_toArray, List.set_cons_zero, List.set_cons_succ]
            go_wp2
            go_ret
            exact ⟨_, rfl, by rw [HTOT.out]; show RB w w9 _ (L5 ++ (MWkb.nm px 8 true ++ MWkb.nm py 8 true)); rw [← List.append_assoc]; exact RB.lower k4 (bthen HB5.out HB59.out).size, bthen HB5.out (bthen HB59.out hW)⟩
        | cons p pts =>
          obtain ⟨b, off, rfl, hbB, x0, x1⟩ := HX1.out 0 (by simp)
          have x0 := HKB.out.cell hbB x0
          have x1 := HKB.out.cell hbB x1
          obtain ⟨px, py⟩ := p
          have x0 : W5.cell? ⟨b, off, none⟩ = some (.int .i64 px) := x0
          have x1 : W5.cell? ⟨b, off + 1, none⟩ = some (.int .i64 py) := x1
          have x0 := kc ((Bel.refl W5).alloc (Nat.le_refl _) (.cells #[.int .i64 (-9223372036854775808), .int .i64 (-9223372036854775808)] 41)) x0
          have x1 := kc ((Bel.refl W5).alloc (Nat.le_refl _) (.cells #[.int .i64 (-9223372036854775808), .int .i64 (-9223372036854775808)] 41)) x1
          have hz2 : (0 : Int) < ((((px, py) :: pts).length : Nat) : Int) := by simp <;> omega
          obtain ⟨n, hn⟩ : ∃ n, ((px, py) :: pts).length = n := ⟨_, rfl⟩
          rw [hn] at hz2 s1 HB15 ⊢
          clear hn s0 s1 s2
          obtain ⟨s0, s1, s2⟩ := Blk.cells3 HB15.out
          go_upto_region 8 with (fail)
          have S9 := Blk.new W5 #[.int .i64 (-9223372036854775808), .int .i64 (-9223372036854775808)] 41
          have S8 := Blk.alloc HB15.out (.cells #[.int .i64 (-9223372036854775808), .int .i64 (-9223372036854775808)] 41)
          have HB58 : Hid (Bel W5 (W5.alloc (.cells #[.int .i64 (-9223372036854775808), .int .i64 (-9223372036854775808)] 41))) := Lib.hid ((Bel.refl W5).alloc (Nat.le_refl _) _)
          obtain ⟨w4, hW⟩ : ∃ X, W5.alloc (.cells #[.int .i64 (-9223372036854775808), .int .i64 (-9223372036854775808)] 41) = X := ⟨_, rfl⟩
          rw [hW] at S9 S8 HB58 x0 x1 ⊢
          obtain ⟨gp, hg⟩ : ∃ X, W5.heap.size = X := ⟨_, rfl⟩
          have HGP := Lib.hid hg
          rw [hg] at S9 ⊢
          clear hW hg s0 s1 s2
          obtain ⟨s0, s1, s2⟩ := Blk.cells3 S8
          have q0 : w4.cell? ⟨gp, 0, none⟩ = some (.int .i64 (-9223372036854775808)) := Blk.cell S9 0 rfl
          have q1 : w4.cell? ⟨gp, 1, none⟩ = some (.int .i64 (-9223372036854775808)) := Blk.cell S9 1 rfl
          have f0 := S9.froz 0
          have f1 := S9.froz 1
          have HS9 := Lib.hid S9
          clear S8 S9
          go_upto_region 10 with (fail)
          have HP5 : Hid (Blk ((w4.setCell ⟨gp, 0, none⟩ (.int .i64 px)).setCell ⟨gp, 1, none⟩ (.int .i64 py)) gp #[.int .i64 px, .int .i64 py] 41) := Lib.hid ((HS9.out.set 0 _).set 1 _)
          have HB59 : Hid (Bel W5 ((w4.setCell ⟨gp, 0, none⟩ (.int .i64 px)).setCell ⟨gp, 1, none⟩ (.int .i64 py))) := Lib.hid (below_set (below_set HB58.out (by rw [HGP.out]; omega) _) (by rw [HGP.out]; omega) _)
          obtain ⟨w5, hW⟩ : ∃ X, (w4.setCell ⟨gp, 0, none⟩ (.int .i64 px)).setCell ⟨gp, 1, none⟩ (.int .i64 py) = X := ⟨_, rfl⟩
          rw [hW] at HP5 HB59 ⊢
          clear hW s0 s1 s2 q0 q1 f0 f1 x0 x1 HS9
          have HU1 := Lib.hid (u64w px)
          have HU2 := Lib.hid (u64w py)
          have HPU1 : Hid (∀ W, Below w5.heap.size w5 W → Calls Tryd.prog 70 #[.slice A9 n9 c9, .int .u64 (MWkb.u64 px), .int .i64 8, .bool true] W fun e w' => ∃ v, e = .returned v ∧ RB W w' v (L5 ++ MWkb.nm px 8 true) ∧ Below W.heap.size W w') := Lib.hid (fun W h => by
            have h9 := ref02_Put_calls A9 c9 L5 (MWkb.u64 px) 8 true W (HC9.out.below (bthen HB59.out h)) (by rw [HN9.out]; exact HCC.out) (by have := HPL.out; omega) (MWkb.u64_in _).1 (MWkb.u64_in _).2
            rw [HN9.out] at h9
            exact h9)
          have HPU2 : Hid (∀ (W : World) (A6 : Option Addr) (c6 : Nat), CB W A6 (L5 ++ MWkb.nm px 8 true) → (L5 ++ MWkb.nm px 8 true).length ≤ c6 → Calls Tryd.prog 70 #[.slice A6 (L5 ++ MWkb.nm px 8 true).length c6, .int .u64 (MWkb.u64 py), .int .i64 8, .bool true] W fun e w' => ∃ v, e = .returned v ∧ RB W w' v (L5 ++ MWkb.nm px 8 true ++ MWkb.nm py 8 true) ∧ Below W.heap.size W w') := Lib.hid (fun W A6 c6 h1 h2 => ref02_Put_calls A6 c6 (L5 ++ MWkb.nm px 8 true) (MWkb.u64 py) 8 true W h1 h2 (by rw [List.length_append, MWkb.nm8]; have := HPL.out; omega) (MWkb.u64_in _).1 (MWkb.u64_in _).2)
          refine Reg.region_mono (P := Tryd.prog) (Ext := Bel) (R := fun i v W => match i with
              | 0 => v = .slice A9 n9 c9
              | 1 => v = .pointer (some ⟨gp, 0, none⟩)
              | 2 => v = .int .i64 px
              | 3 => v = .int .u64 (MWkb.u64 px)
              | 4 => v = .bool true
              | 5 => RB w5 W v (L5 ++ MWkb.nm px 8 true)
              | 6 => v = .pointer (some ⟨gp, 1, none⟩)
              | 7 => v = .int .i64 py
              | 8 => v = .int .u64 (MWkb.u64 py)
              | 9 => v = .bool true
              | 10 => RB w5 W v (L5 ++ MWkb.nm px 8 true ++ MWkb.nm py 8 true)
              | 11 => RB w5 W v (L5 ++ MWkb.nm px 8 true ++ MWkb.nm py 8 true)
              | _ => True) (fun W => Below w5.heap.size w5 W) rfl (by kernel_rfl) (by kernel_rfl) (Bel.drew w5) (fun W W' h h' => bthen h h') Bel.refl (by intro j v W W' hx h; split at h <;> first | exact h | exact RB.below h hx) ?_ ?_
          · intro i oi hoi a W hW need old
            match i, hoi with
            | 0, hoi =>
              simp only [List.getElem?_toArray, List.getElem?_cons_succ, List.getElem?_cons_zero, Option.some.injEq] at hoi
              subst hoi
              refine Reg.ob_plain rfl ?_
              have e5 : a.eval (.tmp 5) = .slice A9 n9 c9 := old 5 (by kernel_rfl)
              refine Reg.wp_val (W' := W) (v := _) (by simp only [execOp, e5, Reg.eval_const]; rfl) ⟨_, rfl, Bel.refl W, rfl⟩
            | 1, hoi =>
              simp only [List.getElem?_toArray, List.getElem?_cons_succ, List.getElem?_cons_zero, Option.some.injEq] at hoi
              subst hoi
              refine Reg.ob_plain rfl ?_
              have e6 : a.eval (.tmp 6) = .pointer (some ⟨gp, 0, none⟩) := old 6 (by kernel_rfl)
              refine Reg.wp_val (W' := W) (v := .pointer (some ⟨gp, 0, none⟩)) (by simp only [execOp, e6, Reg.eval_const, resolve, invoke, builtin, List.map_toArray, List.map_cons, List.map_nil, Option.map_some, Option.map_none]; (first | rfl | go_simp | (go_simp; rfl))) ⟨_, rfl, Bel.refl W, rfl⟩
            | 2, hoi =>
              simp only [List.getElem?_toArray, List.getElem?_cons_succ, List.getElem?_cons_zero, Option.some.injEq] at hoi
              subst hoi
              refine Reg.ob_plain rfl ?_
              have e32 : a.eval (.tmp 32) = .pointer (some ⟨gp, 0, none⟩) := need 1 _ 32 rfl rfl (by kernel_rfl)
              have c0 : W.cell? ⟨gp, 0, none⟩ = some (.int .i64 px) := Blk.cell (Blk.bel HP5.out hW) 0 rfl
              refine Reg.wp_val (W' := W) (v := .int .i64 px) (by simp only [execOp, e32, Reg.eval_const, resolve, invoke, builtin, List.map_toArray, List.map_cons, List.map_nil, Option.map_some, Option.map_none]; (first | rfl | go_simp | (go_simp; rfl))) ⟨_, rfl, Bel.refl W, rfl⟩
            | 3, hoi =>
              simp only [List.getElem?_toArray, List.getElem?_cons_succ, List.getElem?_cons_zero, Option.some.injEq] at hoi
              subst hoi
              refine Reg.ob_plain rfl ?_
              have e33 : a.eval (.tmp 33) = .int .i64 px := need 2 _ 33 rfl rfl (by kernel_rfl)
              have hx := HU1.out
              refine Reg.wp_val (W' := W) (v := .int .u64 (MWkb.u64 px)) (by simp only [execOp, e33, Reg.eval_const, resolve, invoke, builtin, List.map_toArray, List.map_cons, List.map_nil, Option.map_some, Option.map_none]; (first | rfl | go_simp | (go_simp; rfl))) ⟨_, rfl, Bel.refl W, rfl⟩
            | 4, hoi =>
              simp only [List.getElem?_toArray, List.getElem?_cons_succ, List.getElem?_cons_zero, Option.some.injEq] at hoi
              subst hoi
              refine Reg.ob_plain rfl ?_
              have e1 : a.eval (.tmp 1) = .bool true := old 1 (by kernel_rfl)
              refine Reg.wp_val (W' := W) (v := _) (by simp only [execOp, e1, Reg.eval_const]; rfl) ⟨_, rfl, Bel.refl W, rfl⟩
            | 5, hoi =>
              simp only [List.getElem?_toArray, List.getElem?_cons_succ, List.getElem?_cons_zero, Option.some.injEq] at hoi
              subst hoi
              refine Reg.ob_plain rfl ?_
              have e31 : a.eval (.tmp 31) = .slice A9 n9 c9 := need 0 _ 31 rfl rfl (by kernel_rfl)
              have e34 : a.eval (.tmp 34) = .int .u64 (MWkb.u64 px) := need 3 _ 34 rfl rfl (by kernel_rfl)
              have e35 : a.eval (.tmp 35) = .bool true := need 4 _ 35 rfl rfl (by kernel_rfl)
              refine Reg.wp_call (f := 70) (args := #[.slice A9 n9 c9, .int .u64 (MWkb.u64 px), .int .i64 8, .bool true]) (by simp only [execOp, e31, e34, e35, Reg.eval_const, resolve, invoke, List.map_toArray, List.map_cons, List.map_nil]; go_simp) ?_
              refine (HPU1.out W hW).mono ?_
              rintro e W' ⟨v, rfl, hr, hb⟩; exact ⟨v, rfl, v, rfl, hb, hr.lower hW.size⟩
            | 6, hoi =>
              simp only [List.getElem?_toArray, List.getElem?_cons_succ, List.getElem?_cons_zero, Option.some.injEq] at hoi
              subst hoi
              refine Reg.ob_plain rfl ?_
              have e6 : a.eval (.tmp 6) = .pointer (some ⟨gp, 0, none⟩) := old 6 (by kernel_rfl)
              refine Reg.wp_val (W' := W) (v := .pointer (some ⟨gp, 1, none⟩)) (by simp only [execOp, e6, Reg.eval_const, resolve, invoke, builtin, List.map_toArray, List.map_cons, List.map_nil, Option.map_some, Option.map_none]; (first | rfl | go_simp | (go_simp; rfl))) ⟨_, rfl, Bel.refl W, rfl⟩
            | 7, hoi =>
              simp only [List.getElem?_toArray, List.getElem?_cons_succ, List.getElem?_cons_zero, Option.some.injEq] at hoi
              subst hoi
              refine Reg.ob_plain rfl ?_
              have e37 : a.eval (.tmp 37) = .pointer (some ⟨gp, 1, none⟩) := need 6 _ 37 rfl rfl (by kernel_rfl)
              have c0 : W.cell? ⟨gp, 1, none⟩ = some (.int .i64 py) := Blk.cell (Blk.bel HP5.out hW) 1 rfl
              refine Reg.wp_val (W' := W) (v := .int .i64 py) (by simp only [execOp, e37, Reg.eval_const, resolve, invoke, builtin, List.map_toArray, List.map_cons, List.map_nil, Option.map_some, Option.map_none]; (first | rfl | go_simp | (go_simp; rfl))) ⟨_, rfl, Bel.refl W, rfl⟩
            | 8, hoi =>
              simp only [List.getElem?_toArray, List.getElem?_cons_succ, List.getElem?_cons_zero, Option.some.injEq] at hoi
              subst hoi
              refine Reg.ob_plain rfl ?_
              have e38 : a.eval (.tmp 38) = .int .i64 py := need 7 _ 38 rfl rfl (by kernel_rfl)
              have hx := HU2.out
              refine Reg.wp_val (W' := W) (v := .int .u64 (MWkb.u64 py)) (by simp only [execOp, e38, Reg.eval_const, resolve, invoke, builtin, List.map_toArray, List.map_cons, List.map_nil, Option.map_some, Option.map_none]; (first | rfl | go_simp | (go_simp; rfl))) ⟨_, rfl, Bel.refl W, rfl⟩
            | 9, hoi =>
              simp only [List.getElem?_toArray, List.getElem?_cons_succ, List.getElem?_cons_zero, Option.some.injEq] at hoi
              subst hoi
              refine Reg.ob_plain rfl ?_
              have e1 : a.eval (.tmp 1) = .bool true := old 1 (by kernel_rfl)
              refine Reg.wp_val (W' := W) (v := _) (by simp only [execOp, e1, Reg.eval_const]; rfl) ⟨_, rfl, Bel.refl W, rfl⟩
            | 10, hoi =>
              simp only [List.getElem?_toArray, List.getElem?_cons_succ, List.getElem?_cons_zero, Option.some.injEq] at hoi
              subst hoi
              refine Reg.ob_plain rfl ?_
              have r36 := need 5 _ 36 rfl rfl (by kernel_rfl)
              simp only at r36
              obtain ⟨x36, e36⟩ : ∃ x, a.eval (.tmp 36) = x := ⟨_, rfl⟩
              rw [← Reg.eval_tmp, e36] at r36
              have e39 : a.eval (.tmp 39) = .int .u64 (MWkb.u64 py) := need 8 _ 39 rfl rfl (by kernel_rfl)
              have e40 : a.eval (.tmp 40) = .bool true := need 9 _ 40 rfl rfl (by kernel_rfl)
              obtain ⟨A6, c6, hx6, hc6, hC6⟩ := r36.reads
              subst hx6
              refine Reg.wp_call (f := 70) (args := #[.slice A6 (L5 ++ MWkb.nm px 8 true).length c6, .int .u64 (MWkb.u64 py), .int .i64 8, .bool true]) (by simp only [execOp, e36, e39, e40, Reg.eval_const, resolve, invoke, List.map_toArray, List.map_cons, List.map_nil]; go_simp) ?_
              refine (HPU2.out W A6 c6 hC6 hc6).mono ?_
              rintro e W' ⟨v, rfl, hr, hb⟩; exact ⟨v, rfl, v, rfl, hb, hr.lower hW.size⟩
            | 11, hoi =>
              simp only [List.getElem?_toArray, List.getElem?_cons_succ, List.getElem?_cons_zero, Option.some.injEq] at hoi
              subst hoi
              refine Reg.ob_plain rfl ?_
              have r41 := need 10 _ 41 rfl rfl (by kernel_rfl)
              simp only at r41
              obtain ⟨x41, e41⟩ : ∃ x, a.eval (.tmp 41) = x := ⟨_, rfl⟩
              rw [← Reg.eval_tmp, e41] at r41
              refine Reg.wp_val (W' := W) (v := _) (by simp only [execOp, e41, Reg.eval_const]; rfl) ⟨_, rfl, Bel.refl W, r41⟩
            | n + 12, hoi => simp at hoi
          · intro a w9 hW hsize hdef got same did
            have ha := Reg.act_of [31, 32, 33, 34, 35, 36, 37, 38, 39, 40, 41, 4] hsize hdef same (by kernel_rfl)
            simp only [List.foldl_cons, List.foldl_nil] at ha
            generalize a.tmps.getD 31 undef = y31 at ha
            generalize a.tmps.getD 32 undef = y32 at ha
            generalize a.tmps.getD 33 undef = y33 at ha
            generalize a.tmps.getD 34 undef = y34 at ha
            generalize a.tmps.getD 35 undef = y35 at ha
            generalize a.tmps.getD 36 undef = y36 at ha
            generalize a.tmps.getD 37 undef = y37 at ha
            generalize a.tmps.getD 38 undef = y38 at ha
            generalize a.tmps.getD 39 undef = y39 at ha
            generalize a.tmps.getD 40 undef = y40 at ha
            generalize a.tmps.getD 41 undef = y41 at ha
            have k4 := got 11 _ 4 rfl rfl
            simp only at k4
            generalize a.tmps.getD 4 undef = y4 at ha k4
            clear got same hsize hdef did
            subst ha
            simp only [List.setIfInBounds_toArray, List.set_cons_zero, List.set_cons_succ]
            go_wp2
            go_ret
            exact ⟨_, rfl, by rw [HTOT.out]; show RB w w9 _ (L5 ++ (MWkb.nm px 8 true ++ MWkb.nm py 8 true)); rw [← List.append_assoc]; exact RB.lower k4 (bthen HB5.out HB59.out).size, bthen HB5.out (bthen HB59.out hW)⟩
      have hk1' : (kind == 1) = false := by simpa using hk1
      by_cases hk2 : kind = 2
      · subst hk2
        have HTOT := Lib.hid (HTOT0.out _ (by rw [if_neg (by omega), if_pos rfl]))
        have HPC : Hid (Calls Tryd.prog 86 #[.slice A9 n9 c9, .slice a1 pts.length c1, .bool true] W5 fun e w' => ∃ v, e = .returned v ∧ Hid (RB W5 w' v (L5 ++ MWkb.run true pts)) ∧ Hid (Bel W5 w')) := Lib.hid (by
          have h9 := rpoints_calls A9 c9 L5 (.slice a1 pts.length c1) pts true W5 B (by have := HB5.out.size; have := HBB.out; omega) HC9.out (by rw [HN9.out]; exact HCC.out) (HPT.out.keep HKB.out) (by have := HLEN.out; rw [HTOT.out, List.length_append] at this; omega)
          rw [HN9.out] at h9
          exact h9)
        go_wp2_with (go_at_call 86; refine (HPC.out).mono ?_; rintro e W7 ⟨v7, rfl, hr7, hb7⟩)
        go_ret
        exact ⟨_, rfl, by rw [HTOT.out]; exact hr7.out.lower HB5.out.size, bthen HB5.out hb7.out⟩
      have hk2' : (kind == 2) = false := by simpa using hk2
      have hcl : Hid ((cs.length : Int) = (ps.length : Int)) := Lib.hid (by have := HCS.out; omega)
      have HN6 : Hid (Calls Tryd.prog 70 #[.slice A9 n9 c9, .int .u64 (MWkb.u64 cs.length), .int .i64 4, .bool true] W5 fun e w' => ∃ v, e = .returned v ∧ RB W5 w' v (L5 ++ MWkb.nm ps.length 4 true) ∧ Below W5.heap.size W5 w') := Lib.hid (by
        have h9 := ref02_Put_calls A9 c9 L5 (MWkb.u64 cs.length) 4 true W5 HC9.out (by rw [HN9.out]; exact HCC.out) (by
          have h1 := HLEN.out
          have h2 := HTOT0.out _ rfl
          rw [h2, List.length_append] at h1
          omega) (MWkb.u64_in _).1 (MWkb.u64_in _).2
        rw [HN9.out, hcl.out] at h9
        rw [hcl.out]
        exact h9)
      have hu3 := HU3.out
      go_upto_region 14 with (go_at_call 70; refine (HN6.out).mono ?_; rintro e W6 ⟨v6, rfl, hr6, hb6⟩)
      clear hu3
      have HR6 := Lib.hid (hr6.lower (w0 := w) HB5.out.size)
      have HB6 := Lib.hid (bthen HB5.out hb6)
      have HB16 := Lib.hid (Blk.bel HB15.out hb6)
      clear hr6 hb6 s0 s1 s2
      obtain ⟨s0, s1, s2⟩ := Blk.cells3 HB16.out
      have HTOT1 : Hid (E = L5 ++ (MWkb.nm ps.length 4 true ++ (if kind = 3 then MWkb.ringsE true ps else MWkb.encs true ps))) := Lib.hid (HTOT0.out _ (by rw [if_neg hk1, if_neg hk2]))
      clear hk1 hk2 hk1' hk2'
      go_wp2
      clear s0 s1 s2
      by_cases hk3 : kind = 3
      · have hk3b : (kind == 3) = true := by simp [hk3]
        have HTOT := Lib.hid (HTOT1.out)
        rw [if_pos hk3] at HTOT
        clear hk3
        go_loopw [5, 59] (fun bv i wr => ∃ (k : Nat), i = .int .i64 k ∧ k ≤ cs.length ∧ Hid (RB w wr bv (L5 ++ (MWkb.nm ps.length 4 true ++ MWkb.ringsE true (ps.take k)))) ∧ Hid (Bel w wr) ∧ Hid (Blk wr gs #[.int .i64 kind, .slice a1 pts.length c1, .slice a2 cs.length c2] 25)) (fun _ i _ => cs.length - (intOf i).toNat)
        case atStart => exact ⟨0, rfl, by omega, Lib.hid (by rw [List.take_zero, show MWkb.ringsE true [] = [] by simp [MWkb.ringsE], List.append_nil]; exact HR6.out), HB6, HB16⟩
        case round =>
          obtain ⟨k, rfl, hk, HRk, HBk, HGk⟩ := hrel
          by_cases hlt : k < cs.length
          · obtain ⟨b, off, rfl, hbB, x0, x1, x2⟩ := HX2.out k hlt
            have hpk : k < ps.length := by have := HCS.out; omega
            have KB : KeepB B w wr := KeepB.bel HBk.out
            have x0 := KB.cell hbB x0
            have x1 := KB.cell hbB x1
            have x2 := KB.cell hbB x2
            have hsh := (HSUB.out k cs[k] ps[k] (List.getElem?_eq_getElem hlt) (List.getElem?_eq_getElem hpk)).keep KB
            have htk := MWkb.ringsE_take (o := true) hpk
            have hle := MWkb.ringsE_take_le true ps (k + 1)
            obtain ⟨xk, hxk⟩ : ∃ x, cs[k] = x := ⟨_, rfl⟩
            obtain ⟨pk, hpk2⟩ : ∃ x, ps[k] = x := ⟨_, rfl⟩
            rw [hxk] at x0 x1 x2 hsh
            rw [hpk2] at hsh htk
            obtain ⟨kind', u1, u2, u3, u4, u5, u6, rfl⟩ := hsh.forms
            dsimp only at x0 x1 x2
            have HTK := Lib.hid htk
            have HLT := Lib.hid hlt
            obtain ⟨L, hL⟩ : ∃ L, L5 ++ (MWkb.nm ps.length 4 true ++ MWkb.ringsE true (ps.take k)) = L := ⟨_, rfl⟩
            have HLL : Hid (L.length + (MWkb.run true (MWkb.ptsOf pk)).length + 9 < 140737488355328) := Lib.hid (by
              rw [htk, List.length_append] at hle
              have := HLEN.out
              rw [HTOT.out, List.length_append, List.length_append] at this
              rw [← hL, List.length_append, List.length_append]
              omega)
            have HLE := Lib.hid hL
            rw [hL] at HRk
            have HSH := Lib.hid hsh
            have HSZ := Lib.hid (show B ≤ wr.heap.size by have := HBk.out.size; have := HBB.out; omega)
            clear hxk hpk2 hsh KB hpk htk hle hL
            obtain ⟨A7, c7, hv7, hc7, hC7⟩ := HRk.out.reads
            obtain ⟨n7, hn7⟩ : ∃ n, L.length = n := ⟨_, rfl⟩
            have HN7 := Lib.hid hn7
            rw [hn7] at hv7 hc7
            have HC7 := Lib.hid hC7
            have HCC7 := Lib.hid hc7
            clear hC7 hc7 hn7
            subst hv7
            have S8 := HGk.out
            have P := Blk.new wr #[.int .i64 kind', .slice u1 u2 u3, .slice u4 u5 u6] 25
            have S9 := Blk.alloc S8 (.cells #[.int .i64 kind', .slice u1 u2 u3, .slice u4 u5 u6] 25)
            have HB9 : Hid (Bel wr (wr.alloc (.cells #[.int .i64 kind', .slice u1 u2 u3, .slice u4 u5 u6] 25))) := Lib.hid ((Bel.refl wr).alloc (Nat.le_refl _) _)
            clear S8
            go_upto_region 17 with (fail)
            obtain ⟨w9, hW⟩ : ∃ X, wr.alloc (.cells #[.int .i64 kind', .slice u1 u2 u3, .slice u4 u5 u6] 25) = X := ⟨_, rfl⟩
            rw [hW] at P S9 HB9 ⊢
            obtain ⟨gp, hg⟩ : ∃ X, wr.heap.size = X := ⟨_, rfl⟩
            rw [hg] at P ⊢
            clear hW hg x0 x1 x2
            obtain ⟨p0, p1, p2⟩ := Blk.cells3 P
            obtain ⟨s0, s1, s2⟩ := Blk.cells3 S9
            have HS9 := Lib.hid S9
            clear P S9
            have HPC : Hid (Calls Tryd.prog 86 #[.slice A7 n7 c7, .slice u1 u2 u3, .bool true] w9 fun e w' => ∃ v, e = .returned v ∧ Hid (RB w9 w' v (L ++ MWkb.run true (MWkb.ptsOf pk))) ∧ Hid (Bel w9 w')) := Lib.hid (by
              have h9 := rpoints_calls A7 c7 L (.slice u1 u2 u3) (MWkb.ptsOf pk) true w9 B (by have := HB9.out.size; have := HSZ.out; omega) (HC7.out.below HB9.out) (by rw [HN7.out]; exact HCC7.out) (by have h9 := HSH.out.keep (KeepB.bel HB9.out); cases D with | zero => exact h9.elim | succ D => cases pk; exact h9.2.1) HLL.out
              rw [HN7.out] at h9
              exact h9)
            go_wp2_with (go_at_call 86; refine (HPC.out).mono ?_; rintro e w8 ⟨v8, rfl, h8, hb8⟩)
            have HRF := Lib.hid (h8.out.lower (w0 := w) (bthen HBk.out HB9.out).size)
            have HBF := Lib.hid (bthen HBk.out (bthen HB9.out hb8.out))
            have HGF := Lib.hid (Blk.bel HS9.out hb8.out)
            go_roundw
            case rel => exact ⟨k + 1, by go_num, by have := HLT.out; omega, Lib.hid (by rw [HTK.out, ← List.append_assoc (MWkb.nm ps.length 4 true), ← List.append_assoc L5, HLE.out]; exact HRF.out), HBF, HGF⟩
            case measure => (have := HLT.out; simp [intOf] <;> omega)
          · have : k = cs.length := by omega
            subst this
            have htk : ps.take cs.length = ps := by rw [HCS.out, List.take_length]
            clear hlt hk
            go_wp2
            go_ret
            exact ⟨_, rfl, by rw [HTOT.out]; have h9 := HRk.out; rw [htk] at h9; exact h9, HBk.out⟩
      · have hk3b : (kind == 3) = false := by simp [hk3]
        have HTOT := Lib.hid (HTOT1.out)
        rw [if_neg hk3] at HTOT
        clear hk3
        go_loopw [5, 59] (fun bv i wr => ∃ (k : Nat), i = .int .i64 k ∧ k ≤ cs.length ∧ Hid (RB w wr bv (L5 ++ (MWkb.nm ps.length 4 true ++ MWkb.encs true (ps.take k)))) ∧ Hid (Bel w wr) ∧ Hid (Blk wr gs #[.int .i64 kind, .slice a1 pts.length c1, .slice a2 cs.length c2] 25)) (fun _ i _ => cs.length - (intOf i).toNat)
        case atStart => exact ⟨0, rfl, by omega, Lib.hid (by rw [List.take_zero, show MWkb.encs true [] = [] by simp [MWkb.encs], List.append_nil]; exact HR6.out), HB6, HB16⟩
        case round =>
          obtain ⟨k, rfl, hk, HRk, HBk, HGk⟩ := hrel
          by_cases hlt : k < cs.length
          · obtain ⟨b, off, rfl, hbB, x0, x1, x2⟩ := HX2.out k hlt
            have hpk : k < ps.length := by have := HCS.out; omega
            have KB : KeepB B w wr := KeepB.bel HBk.out
            have x0 := KB.cell hbB x0
            have x1 := KB.cell hbB x1
            have x2 := KB.cell hbB x2
            have hsh := (HSUB.out k cs[k] ps[k] (List.getElem?_eq_getElem hlt) (List.getElem?_eq_getElem hpk)).keep KB
            have htk := MWkb.encs_take (o := true) hpk
            have hle := MWkb.encs_take_le true ps (k + 1)
            obtain ⟨xk, hxk⟩ : ∃ x, cs[k] = x := ⟨_, rfl⟩
            obtain ⟨pk, hpk2⟩ : ∃ x, ps[k] = x := ⟨_, rfl⟩
            rw [hxk] at x0 x1 x2 hsh
            rw [hpk2] at hsh htk
            obtain ⟨kind', u1, u2, u3, u4, u5, u6, rfl⟩ := hsh.forms
            dsimp only at x0 x1 x2
            have HTK := Lib.hid htk
            have HLT := Lib.hid hlt
            obtain ⟨L, hL⟩ : ∃ L, L5 ++ (MWkb.nm ps.length 4 true ++ MWkb.encs true (ps.take k)) = L := ⟨_, rfl⟩
            have HLL : Hid (L.length + (MWkb.enc true pk).length + 9 < 140737488355328) := Lib.hid (by
              rw [htk, List.length_append] at hle
              have := HLEN.out
              rw [HTOT.out, List.length_append, List.length_append] at this
              rw [← hL, List.length_append, List.length_append]
              omega)
            have HLE := Lib.hid hL
            rw [hL] at HRk
            have HSH := Lib.hid hsh
            have HSZ := Lib.hid (show B ≤ wr.heap.size by have := HBk.out.size; have := HBB.out; omega)
            clear hxk hpk2 hsh KB hpk htk hle hL
            obtain ⟨A7, c7, hv7, hc7, hC7⟩ := HRk.out.reads
            obtain ⟨n7, hn7⟩ : ∃ n, L.length = n := ⟨_, rfl⟩
            have HN7 := Lib.hid hn7
            rw [hn7] at hv7 hc7
            have HC7 := Lib.hid hC7
            have HCC7 := Lib.hid hc7
            clear hC7 hc7 hn7
            subst hv7
            have S8 := HGk.out
            have P := Blk.new wr #[.int .i64 kind', .slice u1 u2 u3, .slice u4 u5 u6] 25
            have S9 := Blk.alloc S8 (.cells #[.int .i64 kind', .slice u1 u2 u3, .slice u4 u5 u6] 25)
            have HB9 : Hid (Bel wr (wr.alloc (.cells #[.int .i64 kind', .slice u1 u2 u3, .slice u4 u5 u6] 25))) := Lib.hid ((Bel.refl wr).alloc (Nat.le_refl _) _)
            clear S8
            go_upto_region 17 with (fail)
            obtain ⟨w9, hW⟩ : ∃ X, wr.alloc (.cells #[.int .i64 kind', .slice u1 u2 u3, .slice u4 u5 u6] 25) = X := ⟨_, rfl⟩
            rw [hW] at P S9 HB9 ⊢
            obtain ⟨gp, hg⟩ : ∃ X, wr.heap.size = X := ⟨_, rfl⟩
            rw [hg] at P ⊢
            clear hW hg x0 x1 x2
            obtain ⟨p0, p1, p2⟩ := Blk.cells3 P
            obtain ⟨s0, s1, s2⟩ := Blk.cells3 S9
            have HS9 := Lib.hid S9
            clear P S9
            have HPC := Lib.hid (IH.out pk _ true w9 B (by have := HB9.out.size; have := HSZ.out; omega) (HSH.out.keep (KeepB.bel HB9.out)) (by have := HLL.out; omega))
            go_wp2_with (first
              | (at_builtin; refine appNg (w0 := w) (.tmp 71) (.tmp 74) rfl rfl (.slice A7 n7 c7) L (MWkb.enc true pk) A8 c8 rfl rfl HR8.out HC8.out HB8.out (by have := HLL.out; omega) ?_; intro v6' w6' HRF HBF HGR)
              | (go_at_call 62; refine (HPC.out).mono ?_; rintro e w8 ⟨v8, rfl, h8, hb8⟩; obtain ⟨A8, c8, hv8, hc8, hC8⟩ := h8.out.reads; subst hv8; have HC8 := Lib.hid hC8; have HR8 := Lib.hid (HRk.out.below (bthen HB9.out hb8.out)); have HB8 := Lib.hid (bthen HBk.out (bthen HB9.out hb8.out))))
            have HGF : Hid (Blk w6' gs _ 25) := Lib.hid ((HGR.out.block gs (Blk.lt (Blk.bel HS9.out hb8.out)) (Kd.R_ne HR8.out (Blk.bel HS9.out hb8.out) (by decide))).trans (Blk.bel HS9.out hb8.out))
            go_roundw
            case rel => exact ⟨k + 1, by go_num, by have := HLT.out; omega, Lib.hid (by rw [HTK.out, ← List.append_assoc (MWkb.nm ps.length 4 true), ← List.append_assoc L5, HLE.out]; exact HRF.out), HBF, HGF⟩
            case measure => (have := HLT.out; simp [intOf] <;> omega)
          · have : k = cs.length := by omega
            subst this
            have htk : ps.take cs.length = ps := by rw [HCS.out, List.take_length]
            clear hlt hk
            go_wp2
            go_ret
            exact ⟨_, rfl, by rw [HTOT.out]; have h9 := HRk.out; rw [htk] at h9; exact h9, HBk.out⟩

end Go.Proofs.YtfknhpgelleenaaDoor.K
