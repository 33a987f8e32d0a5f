/- A shape anew: shape.Copy. -/
import Derived.Test.YtfknhpgelleenaaDoorKB
import Derived.Handy
import Derived.Test.YtfknhpgelleenaaDoorKM
import Derived.Test.YtfknhpgelleenaaDoorWShp
import Derived.Test.YtfknhpgelleenaaDoorWPts
import Derived.Test.YtfknhpgelleenaaDoorWShW
import Derived.Test.YtfknhpgelleenaaDoorWTurn
import Derived.Test.YtfknhpgelleenaaDoorWAppIn
import Derived.IntWalk
import Derived.Deep.RegionLaw
namespace Go.Proofs.YtfknhpgelleenaaDoor.K
open Go Go.RowKit Go.Proofs.YtfknhpgelleenaaDoorW.PrintWords Go.Proofs.YtfknhpgelleenaaDoorW.PrintLast Go.Proofs.YtfknhpgelleenaaDoorW.PrintMore
set_option linter.unusedVariables false
set_option linter.unusedSimpArgs false
open Go.Proofs.YtfknhpgelleenaaDoor.MShape (Sh flats nodess nodes_pos nodess_nn)
theorem nodess_get : ∀ {l : List Sh} {k : Nat} (h : k < l.length), l[k].nodes ≤ nodess l
  | p :: ps, 0, _ => by have := nodess_nn ps; show p.nodes ≤ nodess (p :: ps); unfold nodess; omega
  | p :: ps, k + 1, h => by have := nodess_get (l := ps) (k := k) (by simpa using h); have := nodes_pos p; show (ps[k]'(by simpa using h)).nodes ≤ nodess (p :: ps); unfold nodess; omega
theorem nodess_len : ∀ l : List Sh, (l.length : Int) ≤ nodess l
  | [] => by unfold nodess; simp
  | p :: ps => by have := nodess_len ps; have := nodes_pos p; unfold nodess; simp only [List.length_cons]; omega
theorem step_of_list {P : Program} {ops : Array Oper} {o : Oper} {a : Act} {W : World} {K : Act → World → Prop} {Q : Exit → Act → World → Prop} {E : Prop} (hg : o.guard = none)
    (h : wpList P ops (fun ex a w => ex = .normal ∧ K a w) [o] a W) : if Region.wanted o (yielded ops a.tmps) = true then Oper.wp P o a W K Q else E := by
  rw [if_pos (by simp [Region.wanted, hg])]
  exact wp_of_list hg h
/-- A row of shapes of a call's own, in blocks that are so. -/
def RSo (ok : Nat → Prop) (w0 w : World) (v : Value) (l : List Sh) : Prop := KW.R 25 w w0.heap.size ok v l
theorem RSo.ne_pt {ok : Nat → Prop} {w0 W : World} {v v' : Value} {l : List Sh} {l' : List (Int × Int)} (h : RSo ok w0 W v l) (h' : RPt w0 W v' l') : ∀ k, v.ownBlock = some k → some k ≠ v'.ownBlock := by
  intro k hk e
  obtain ⟨_, inner, ho, _⟩ := h
  obtain ⟨_, inner', ho', _⟩ := h'
  obtain ⟨c, hc⟩ := own_typed ho k hk
  obtain ⟨c', hc'⟩ := own_typed ho' k e.symm
  rw [hc] at hc'
  cases hc'
section
variable {ops : Array Oper} {rest : List Oper} {o : Oper} {a : Act} {Q : Exit → Act → World → Prop}
theorem appSo {w0 W : World} (ok : Nat → Prop) (s x : Operand) (hgd : o.guard = none) (ho : o.op = .call { callee := .builtin .append, args := #[s, x], argTypes := #[23, 23] })
    (v : Value) (xs : List Sh) (p : Sh) (cs : List Value) (hs : a.eval s = v) (hx : a.eval x = .slice (some ⟨W.heap.size, 0, none⟩) 1 1) {okp : Nat → Prop}
    (HO : RSo ok w0 W v xs) (hp : KW.M W w0.heap.size okp p cs) (hk : ∀ k, okp k → ok k ∧ some k ≠ v.ownBlock) (hf : ∀ k, W.heap.size ≤ k → ok k) (HB : Below w0.heap.size w0 W) (hl : xs.length + 1 < 100000000)
    (h : ∀ v1 w1, Hid (RSo ok w0 w1 v1 (xs ++ [p])) → Hid (Below w0.heap.size w0 w1) → Hid (W.grownBy w1 v.ownBlock) → wpList Tryd.prog ops Q rest (a.put o.dst v1) w1) :
    wpList Tryd.prog ops Q (o :: rest) a (W.alloc (.cells cs.toArray 25)) :=
  Kd.R_append KW (w0 := w0) w0.heap.size hgd s x 23 25 (.agg #[.int .i64 0, .slice none 0 0, .slice none 0 0]) 56 ho Tryd.underlying23 infoSh rfl (by decide) (by omega) v xs p cs ok okp hs hx hp
    hk hf HO HB HB.size (by show (xs.length + 1) * 56 ≤ _; omega) (fun v1 w1 ho hb hg hat => h v1 w1 (Lib.hid ho) (Lib.hid hb) (Lib.hid hg))
end
set_option maxHeartbeats 2000000 in
set_option maxRecDepth 100000 in
/-- A shape anew, in new memory. -/
theorem copy_calls : ∀ (D : Nat) (s : Sh) (c : Value × Value × Value) (w : World) (B : Nat), B ≤ w.heap.size → ShB B w D c s → s.flat.length < 1000000 → s.nodes < 1000000 →
    Calls Tryd.prog 33 #[.agg #[c.1, c.2.1, c.2.2]] w fun e w' => ∃ cs, e = .returned (.agg cs.toArray) ∧ Hid (∃ d, MW d w' w.heap.size (fun _ => True) s cs) ∧ Hid (Bel w w') := by
  intro D
  induction D with
  | zero => intro s c w B _ h; exact h.elim
  | succ D ih =>
    intro s c w B hB hs hlen hnod
    have IH := Lib.hid ih
    clear ih
    obtain ⟨kind, pts, ps⟩ := s
    obtain ⟨e0, hpts, cs, hcs, ⟨a2, c2, e2, _, hm2, hx2⟩, hsub⟩ := hs
    have hpts' := hpts
    obtain ⟨a1, c1, e1, hc1, -, -⟩ := hpts
    obtain ⟨v0, v1, v2⟩ := c
    simp only at e0 e1 e2 hpts'
    subst e0 e1 e2
    dsimp only
    have hfl : (Sh.mk kind pts ps).flat = pts ++ flats ps := by unfold Sh.flat; rfl
    have hnd : (Sh.mk kind pts ps).nodes = 1 + nodess ps := by unfold Sh.nodes; rfl
    rw [hfl, List.length_append] at hlen
    rw [hnd] at hnod
    have hpl : pts.length < 1000000 := by omega
    have hps := nodess_len ps
    have HX := Lib.hid hx2
    have HSUB := Lib.hid hsub
    have HCS := Lib.hid hcs
    have HPT := Lib.hid hpts'.cpt.2.2
    have HC1 := Lib.hid hc1
    have HPL := Lib.hid hpl
    have HNB := Lib.hid (show (flats ps).length < 1000000 ∧ nodess ps < 1000000 ∧ cs.length < 1000000 by omega)
    have HBB := Lib.hid hB
    clear hx2 hsub hcs hpts' hc1 hpl hps hlen hnod hfl hnd hB
    have S := (Blk.new w #[.int .i64 kind, .slice a1 pts.length c1, .slice a2 cs.length c2] 25).alloc (.cells #[.int .i64 0, .slice none 0 0, .slice none 0 0] 25)
    have R := Blk.new_at (W := w.alloc (.cells #[.int .i64 kind, .slice a1 pts.length c1, .slice a2 cs.length c2] 25)) (g := w.heap.size + 1) (by simp) #[.int .i64 0, .slice none 0 0, .slice none 0 0] 25
    have HB : Hid (Below w.heap.size w ((w.alloc (.cells #[.int .i64 kind, .slice a1 pts.length c1, .slice a2 cs.length c2] 25)).alloc (.cells #[.int .i64 0, .slice none 0 0, .slice none 0 0] 25))) := Lib.hid (by repeat (first | exact Below.refl _ _ | refine Below.alloc ?_ (by simp <;> omega) _))
    go_enter Tryd.func33, Tryd.ntmps33
    go_upto_region 1 with (fail)
    obtain ⟨W, hW⟩ : ∃ X, (w.alloc (.cells #[.int .i64 kind, .slice a1 pts.length c1, .slice a2 cs.length c2] 25)).alloc (.cells #[.int .i64 0, .slice none 0 0, .slice none 0 0] 25) = X := ⟨_, rfl⟩
    rw [hW] at S R HB ⊢
    clear hW
    obtain ⟨gs, hgs⟩ : ∃ g, w.heap.size = g := ⟨_, rfl⟩
    have HGS := Lib.hid hgs
    rw [hgs] at S R ⊢
    obtain ⟨gr, hgr⟩ : ∃ g, gs + 1 = g := ⟨_, rfl⟩
    have HGR := Lib.hid hgr
    rw [hgr] at R ⊢
    clear hgs hgr
    obtain ⟨s0, s1, s2⟩ := Blk.cells3 S
    have HP : Hid (∀ W', Bel W W' → CPt W' a1 pts) := Lib.hid (fun W' h => HPT.out.below (bthen HB.out h))
    have HS := Lib.hid S
    have HR := Lib.hid R
    clear S R
    go_cut [3] from 6 (fun p W2 => ∃ g v, p = .pointer (some ⟨g, 0, none⟩) ∧ Hid (W.heap.size ≤ g) ∧ Hid (Bel W W2) ∧ Hid (RPt w W2 v pts) ∧ Blk W2 g #[.int .i64 kind, v, .slice none 0 0] 25)
    case first =>
      have hgs := Blk.lt HS.out
      go_region_law (first
        | (go_simp; go_at_call 60; refine (clonePts_calls a1 c1 pts W.drew (HP.out _ (Bel.drew _)) HC1.out HPL.out).mono ?_; rintro e w7 ⟨v7, rfl, hr7, hb7⟩; obtain ⟨A7, c7, hv7, -, -⟩ := hr7.reads; have HR7 := Lib.hid (hr7.lower (show w.heap.size ≤ W.drew.heap.size from HB.out.size)); have HB7 := Lib.hid (bthen (Bel.drew W) hb7); have q0 : w7.cell? ⟨gs, 0, none⟩ = some (.int .i64 kind) := Blk.cell (Blk.bel HS.out HB7.out) 0 rfl; have q9 : gs < w7.heap.size := Blk.lt (Blk.bel HS.out HB7.out); clear hr7 hb7; subst hv7)
        | (go_simp; go_at_call 60; refine (clonePts_calls a1 c1 pts (W.alloc (.cells #[.int .i64 0, .slice none 0 0, .slice none 0 0] 25)).drew (HP.out _ (bthen ((Bel.refl W).alloc (Nat.le_refl _) _) (Bel.drew _))) HC1.out HPL.out).mono ?_; rintro e w7 ⟨v7, rfl, hr7, hb7⟩; obtain ⟨A7, c7, hv7, -, -⟩ := hr7.reads; have HR7 := Lib.hid (hr7.lower (show w.heap.size ≤ (W.alloc (.cells #[.int .i64 0, .slice none 0 0, .slice none 0 0] 25)).drew.heap.size from Nat.le_trans HB.out.size (bthen ((Bel.refl W).alloc (Nat.le_refl _) (.cells #[.int .i64 0, .slice none 0 0, .slice none 0 0] 25)) (Bel.drew _)).size)); have HB7 := Lib.hid (bthen (bthen ((Bel.refl W).alloc (Nat.le_refl _) (.cells #[.int .i64 0, .slice none 0 0, .slice none 0 0] 25)) (Bel.drew _)) hb7); have Z7 := Blk.bel (Blk.bel (Blk.new W #[.int .i64 0, .slice none 0 0, .slice none 0 0] 25) (Bel.drew _)) hb7; have q0 : w7.cell? ⟨gs, 0, none⟩ = some (.int .i64 kind) := Blk.cell (Blk.bel HS.out HB7.out) 0 rfl; have q9 : gs < w7.heap.size := Blk.lt (Blk.bel HS.out HB7.out); clear hr7 hb7; subst hv7; obtain ⟨z0, z1, z2⟩ := Blk.cells3 Z7; have k0 := Z7.froz 0; have k1 := Z7.froz 1; have k2 := Z7.froz 2))
      all_goals
        go_wp2
        go_meet
        first
          | exact ⟨w7.heap.size, _, rfl, Lib.hid HB7.out.size, Lib.hid (HB7.out.alloc HB7.out.size _), Lib.hid (HR7.out.below ((Below.refl _ _).alloc (Nat.le_refl _) _)), Blk.new _ _ _⟩
          | exact ⟨W.heap.size, _, rfl, Lib.hid (Nat.le_refl _), Lib.hid (below_set3 HB7.out (Nat.le_refl _) _ _ _), Lib.hid (((HR7.out.set (HR7.out.ne Z7 (by decide)) _).set (HR7.out.ne Z7 (by decide)) _).set (HR7.out.ne Z7 (by decide)) _), Blk.set3 Z7⟩
    case rest =>
      obtain ⟨g, v, rfl, HGE, HB2, HR2, G2⟩ := hcut
      obtain ⟨Av, cv, hv, -, -⟩ := HR2.out.reads
      obtain ⟨np, hnp⟩ : ∃ n, pts.length = n := ⟨_, rfl⟩
      rw [hnp] at hv
      subst hv
      have S2 := Blk.bel HS.out HB2.out
      clear s0 s1 s2
      obtain ⟨s0, s1, s2⟩ := Blk.cells3 S2
      have HPP : Hid (KeepB B w W) := Lib.hid (KeepB.bel HB.out)
      have HWW := Lib.hid HB.out.size
      have HG2 := Lib.hid G2
      have HNP := Lib.hid hnp
      have HGR2 : Hid (g ≠ gr ∧ gr < W.heap.size) := Lib.hid ⟨by have := HGE.out; have := Blk.lt HR.out; omega, Blk.lt HR.out⟩
      have HCL : Hid (ps.length = cs.length) := Lib.hid HCS.out.symm
      clear G2 S2 hnp
      go_wp2
      go_loopw [15] (fun i wr => ∃ (k : Nat) (v : Value), i = .int .i64 k ∧ k ≤ cs.length ∧ Hid (Bel W wr) ∧ Hid (RPt w wr (.slice Av np cv) pts) ∧ Hid (RSo (fun j => W.heap.size ≤ j ∧ j ≠ g) w wr v (ps.take k)) ∧ Hid (Blk wr g #[.int .i64 kind, .slice Av np cv, v] 25)) (fun i _ => cs.length - (intOf i).toNat)
      case atStart => exact ⟨0, _, rfl, by omega, HB2, HR2, Lib.hid (by rw [List.take_zero]; exact Kd.R_nil _ _ _ _ _), HG2⟩
      case round =>
        clear s0 s1 s2
        obtain ⟨k, v, rfl, hk, HBk, HRk, HSk, HGk⟩ := hrel
        by_cases hlt : k < cs.length
        · obtain ⟨b, off, rfl, hbB, x0, x1, x2⟩ := HX.out k hlt
          have hpk : k < ps.length := by have := HCL.out; omega
          have KB : KeepB B w wr := HPP.out.trans (KeepB.bel HBk.out)
          have x0 := KB.cell hbB x0
          have x1 := KB.cell hbB x1
          have x2 := KB.cell hbB x2
          have hsh := (HSUB.out k cs[k] ps[k] (List.getElem?_eq_getElem hlt) (List.getElem?_eq_getElem hpk)).keep KB
          have htk : ps.take (k + 1) = ps.take k ++ [ps[k]] := List.take_succ_eq_append_getElem hpk
          have HF := Lib.hid (show ps[k].flat.length < 1000000 ∧ ps[k].nodes < 1000000 from ⟨by have := flat_le hpk; have := HNB.out.1; omega, by have := nodess_get hpk; have := HNB.out.2.1; omega⟩)
          obtain ⟨xk, hxk⟩ : ∃ x, cs[k] = x := ⟨_, rfl⟩
          obtain ⟨pk, hpk2⟩ : ∃ x, ps[k] = x := ⟨_, rfl⟩
          rw [hxk] at x0 x1 x2 hsh
          rw [hpk2] at hsh htk HF
          have HTK := Lib.hid htk
          obtain ⟨kind', u1, u2, u3, u4, u5, u6, rfl⟩ := hsh.forms
          dsimp only at x0 x1 x2
          have HSH := Lib.hid hsh
          have HLT := Lib.hid hlt
          have HLL : Hid ((ps.take k).length + 1 < 100000000) := Lib.hid (by rw [List.length_take]; have := HNB.out.2.2; omega)
          clear hxk hpk2 hsh KB hpk htk
          go_upto_region 5 with (fail)
          have P := Blk.new wr #[.int .i64 kind', .slice u1 u2 u3, .slice u4 u5 u6] 25
          have HB5 : Hid (Bel wr (wr.alloc (.cells #[.int .i64 kind', .slice u1 u2 u3, .slice u4 u5 u6] 25))) := Lib.hid ((Bel.refl wr).alloc (Nat.le_refl _) _)
          obtain ⟨w5, hW⟩ : ∃ X, wr.alloc (.cells #[.int .i64 kind', .slice u1 u2 u3, .slice u4 u5 u6] 25) = X := ⟨_, rfl⟩
          rw [hW] at P HB5 ⊢
          obtain ⟨gp, hg⟩ : ∃ g, wr.heap.size = g := ⟨_, rfl⟩
          rw [hg] at P ⊢
          clear hW hg x0 x1 x2
          obtain ⟨p0, p1, p2⟩ := Blk.cells3 P
          obtain ⟨Ar, cr, hv, -, -⟩ := Kd.R_reads HSk.out
          obtain ⟨nr, hnr⟩ : ∃ n, (ps.take k).length = n := ⟨_, rfl⟩
          rw [hnr] at hv
          subst hv
          obtain ⟨xs, hxs⟩ : ∃ l, ps.take k = l := ⟨_, rfl⟩
          rw [hxs] at HSk HLL HTK
          clear hnr hxs
          have G5 := Blk.bel HGk.out HB5.out
          obtain ⟨g0, g1, g2⟩ := Blk.cells3 G5
          have HBw5 := Lib.hid (bthen HBk.out HB5.out)
          have HCALL := Lib.hid (IH.out pk _ w5.drew B (by have := (bthen (bthen HBk.out HB5.out) (Bel.drew _)).size; have := HWW.out; have := HBB.out; omega) (HSH.out.keep (KeepB.bel (bthen HB5.out (Bel.drew _)))) HF.out.1 HF.out.2)
          have HOK : Hid (∀ j, w5.heap.size ≤ j → (W.heap.size ≤ j ∧ j ≠ g) ∧ some j ≠ (Value.slice Ar nr cr).ownBlock) := Lib.hid (fun j hj => ⟨⟨by have := HBw5.out.size; omega, by have := Blk.lt G5; omega⟩, fun e => by have h1 := Kd.R_lt HSk.out j e.symm; have := HB5.out.size; omega⟩)
          go_region_law (first
            | (go_simp; go_at_call 33; refine (HCALL.out).mono ?_; rintro e w7 ⟨cs7, rfl, hm7, hb7⟩; obtain ⟨d7, hM7⟩ := hm7.out; obtain ⟨m0, m1, m2, m3, m4, m5, m6, rfl⟩ := hM7.forms; have hb57 := bthen (Bel.drew w5) hb7.out; have G7 := Blk.bel G5 hb57; obtain ⟨q0, q1, q2⟩ := Blk.cells3 G7; have qg : g < w7.heap.size := Blk.lt G7; have HG7 := Lib.hid G7; have HB7 := Lib.hid (bthen HBw5.out hb57); have HS7 := Lib.hid (Kd.R_below HSk.out (bthen HB5.out hb57)); have HR7 := Lib.hid (HRk.out.below (bthen HB5.out hb57)); have HM7 : Hid (KW.M w7 w.heap.size (fun j => w5.heap.size ≤ j) pk [.int .i64 m0, .slice m1 m2 m3, .slice m4 m5 m6]) := Lib.hid ⟨d7, (hM7.bound.mono (fun j hj => hj.2.1)).lower (show w.heap.size ≤ w5.drew.heap.size from Nat.le_trans HWW.out HBw5.out.size)⟩; have H57 := Lib.hid hb57.size; clear hm7 hb7 hM7 hb57 G7)
            | (refine step_of_list rfl (appSo (w0 := w) (fun j => W.heap.size ≤ j ∧ j ≠ g) (.tmp 20) (.tmp 23) rfl rfl (.slice Ar nr cr) xs pk [.int .i64 m0, .slice m1 m2 m3, .slice m4 m5 m6] rfl rfl HS7.out HM7.out (fun j hj => HOK.out j hj) (fun j hj => (HOK.out j (Nat.le_trans H57.out hj)).1) (bthen HB.out HB7.out) HLL.out (fun v8 w8 h8 hb8 hg8 => ?_)); obtain ⟨A8, c8, hv8, -, -⟩ := Kd.R_reads h8.out; obtain ⟨n8, hn8⟩ : ∃ n, (xs ++ [pk]).length = n := ⟨_, rfl⟩; rw [hn8] at hv8; clear hn8; subst hv8; have hne8 : some g ≠ (Value.slice Ar nr cr).ownBlock := (fun e => (HS7.out.1 g e.symm).2 rfl); have G8 : Blk w8 g #[.int .i64 kind, .slice Av np cv, .slice Ar nr cr] 25 := (hg8.out.block g (Blk.lt HG7.out) hne8).trans HG7.out; have y2 : w8.cell? ⟨g, 2, none⟩ = some (.slice Ar nr cr) := Blk.cell G8 2 rfl; have f2 := G8.froz 2; have HG8 := Lib.hid G8; have HB8 : Hid (Bel W w8) := Lib.hid (Below.grown HB7.out hg8.out HB7.out.size (fun j e => (HS7.out.1 j e).1)); have HR8 : Hid (RPt w w8 (.slice Av np cv) pts) := Lib.hid (Kd.R_grown2 HR7.out rfl hg8.out (RSo.ne_pt HS7.out HR7.out)); clear G8 hne8; refine ⟨rfl, ?_⟩))
          all_goals
            have HB9 := Lib.hid (below_set HB8.out HGE.out (i := 2) (.slice A8 n8 c8))
            have HR9 := Lib.hid (HR8.out.set (i := 2) (HR8.out.ne HG8.out (by decide)) (.slice A8 n8 c8))
            have HS9 : Hid (RSo (fun j => W.heap.size ≤ j ∧ j ≠ g) w (w8.setCell ⟨g, 2, none⟩ (.slice A8 n8 c8)) (.slice A8 n8 c8) (xs ++ [pk])) := Lib.hid (Kd.R_far (p := ⟨g, 2, none⟩) h8.out (fun j hj => hj.2) (.slice A8 n8 c8))
            have HG9 : Hid (Blk (w8.setCell ⟨g, 2, none⟩ (.slice A8 n8 c8)) g #[.int .i64 kind, .slice Av np cv, .slice A8 n8 c8] 25) := Lib.hid (HG8.out.set 2 _)
            obtain ⟨W9, hW⟩ : ∃ X, w8.setCell ⟨g, 2, none⟩ (.slice A8 n8 c8) = X := ⟨_, rfl⟩
            rw [hW] at HB9 HR9 HS9 HG9 ⊢
            clear hW y2 f2
            go_wp2
            go_roundw
            case rel => exact ⟨k + 1, _, by go_num, by have := HLT.out; omega, HB9, HR9, by rw [HTK.out]; exact HS9, HG9⟩
            case measure => (have := HLT.out; simp [intOf] <;> omega)
        · have : k = cs.length := by omega
          subst this
          clear hlt hk
          have htk : ps.take cs.length = ps := by rw [← HCL.out, List.take_length]
          rw [htk] at HSk
          clear htk
          obtain ⟨Ar, cr, hv, -, -⟩ := Kd.R_reads HSk.out
          obtain ⟨nr, hnr⟩ : ∃ n, ps.length = n := ⟨_, rfl⟩
          rw [hnr] at hv
          subst hv
          clear hnr
          obtain ⟨g0, g1, g2⟩ := Blk.cells3 HGk.out
          have R9 := Blk.bel HR.out HBk.out
          obtain ⟨r0, r1, r2⟩ := Blk.cells3 R9
          have f0 := R9.froz 0
          have f1 := R9.froz 1
          have f2 := R9.froz 2
          have HR9 := Lib.hid R9
          clear R9
          go_wp2
          have HRR : Blk (((wr.setCell ⟨gr, 0, none⟩ (.int .i64 kind)).setCell ⟨gr, 1, none⟩ (.slice Av np cv)).setCell ⟨gr, 2, none⟩ (.slice Ar nr cr)) gr #[.int .i64 kind, .slice Av np cv, .slice Ar nr cr] 25 := Blk.set3 HR9.out
          obtain ⟨q0, q1, q2⟩ := Blk.cells3 HRR
          have hwr : w.heap.size ≤ gr := by have := HGR.out; have := HGS.out; omega
          have hne : some gr ≠ (Value.slice Ar nr cr).ownBlock := fun e => by have h1 := (HSk.out.1 gr e.symm).1; have := HGR2.out.2; omega
          have HS10 := Kd.R_mono (Kd.R_far (p := ⟨gr, 2, none⟩) (Kd.R_far (p := ⟨gr, 1, none⟩) (Kd.R_far (p := ⟨gr, 0, none⟩) HSk.out (fun j hj => by have := hj.1; have := HGR2.out.2; show j ≠ gr; omega) (.int .i64 kind)) (fun j hj => by have := hj.1; have := HGR2.out.2; show j ≠ gr; omega) (.slice Av np cv)) (fun j hj => by have := hj.1; have := HGR2.out.2; show j ≠ gr; omega) (.slice Ar nr cr)) (ok' := fun _ => True) (fun _ _ => trivial)
          have HR10 := ((HRk.out.set (i := 0) (HRk.out.ne HR9.out (by decide)) (.int .i64 kind)).set (i := 1) (HRk.out.ne HR9.out (by decide)) (.slice Av np cv)).set (i := 2) (HRk.out.ne HR9.out (by decide)) (.slice Ar nr cr)
          have HB10 := below_set3 (bthen HB.out HBk.out) hwr (.int .i64 kind) (.slice Av np cv) (.slice Ar nr cr)
          have HM10 := MW.of (kind := kind) HR10 HS10
          refine bodyPost_ret (v := .agg #[.int .i64 kind, .slice Av np cv, .slice Ar nr cr]) ?_ rfl ⟨_, rfl, Lib.hid HM10, Lib.hid HB10⟩
          simp [results, Tryd.results33, go_sem, q0, q1, q2]

end Go.Proofs.YtfknhpgelleenaaDoor.K
