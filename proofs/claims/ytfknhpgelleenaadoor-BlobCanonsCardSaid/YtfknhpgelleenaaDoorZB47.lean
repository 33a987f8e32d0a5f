/- What a claim leans on, part 47, cut by a program out of the texts WREqual. -/
import Derived.Handy
import Derived.Test.YtfknhpgelleenaaDoorZB3
import Derived.Test.YtfknhpgelleenaaDoorZB4
import Derived.Test.YtfknhpgelleenaaDoorZB12
import Derived.Test.YtfknhpgelleenaaDoorZB45
import Derived.Test.YtfknhpgelleenaaDoorZB46
section
namespace Go.Proofs.YtfknhpgelleenaaDoor.K
open Go Go.RowKit Go.Proofs.YtfknhpgelleenaaDoorW.PrintWords Go.Proofs.YtfknhpgelleenaaDoorW.PrintLast Go.Proofs.YtfknhpgelleenaaDoorW.PrintMore
set_option linter.unusedVariables false
set_option linter.unusedSimpArgs false
open Go.Proofs.YtfknhpgelleenaaDoor.MShape (Sh eqPts eqS eqsS)
theorem kwE {wr w w' : World} {g0 i0 g1 i1 b o b' o' : Nat} {u1 u2 p0 p1 p2 q0 q1 q2 : Value} (hb : Bel w w') (hh : w.cell? ⟨g0, i0, none⟩ = some u1 ∧ w.cell? ⟨g1, i1, none⟩ = some u2 ∧ w.cell? ⟨b, o, none⟩ = some p0 ∧ w.cell? ⟨b, o + 1, none⟩ = some p1 ∧ w.cell? ⟨b, o + 2, none⟩ = some p2 ∧ w.cell? ⟨b', o', none⟩ = some q0 ∧ w.cell? ⟨b', o' + 1, none⟩ = some q1 ∧ w.cell? ⟨b', o' + 2, none⟩ = some q2 ∧ Bel wr w) : w'.cell? ⟨g0, i0, none⟩ = some u1 ∧ w'.cell? ⟨g1, i1, none⟩ = some u2 ∧ w'.cell? ⟨b, o, none⟩ = some p0 ∧ w'.cell? ⟨b, o + 1, none⟩ = some p1 ∧ w'.cell? ⟨b, o + 2, none⟩ = some p2 ∧ w'.cell? ⟨b', o', none⟩ = some q0 ∧ w'.cell? ⟨b', o' + 1, none⟩ = some q1 ∧ w'.cell? ⟨b', o' + 2, none⟩ = some q2 ∧ Bel wr w' := by
  obtain ⟨h0, h1, h2, i0, i1, i2, i3, i4, hz⟩ := hh
  have k : ∀ {g i : Nat} {u : Value}, w.cell? ⟨g, i, none⟩ = some u → w'.cell? ⟨g, i, none⟩ = some u := fun {g i u} h => (hb.cell (p := ⟨g, i, none⟩) (World.block_lt_of_cell? _ _ h)).trans h
  exact ⟨k h0, k h1, k h2, k i0, k i1, k i2, k i3, k i4, bthen hz hb⟩
set_option maxHeartbeats 4000000 in
set_option maxRecDepth 100000 in
theorem rEqual_calls : ∀ D : Nat, EqC 31 D := by
  intro D
  induction D with
  | zero => intro D' s s' c c' w B _ h; exact h.elim
  | succ D ih =>
    intro D' s s' c c' w B hB hs hs'
    cases D' with
    | zero => exact hs'.elim
    | succ D' =>
    obtain ⟨k, pts, ps⟩ := s
    obtain ⟨k', pts', ps'⟩ := s'
    obtain ⟨v0, v1, v2⟩ := c
    obtain ⟨v0', v1', v2'⟩ := c'
    obtain ⟨e0, hp, cs, hc, hq, hsub⟩ := hs
    obtain ⟨e0', hp', cs', hc', hq', hsub'⟩ := hs'
    dsimp only at e0 e0' hp hp' hq hq'
    subst e0 e0'
    rw [eqS_mk]
    obtain ⟨a1, c1, f1, hc1, hm1, hx1⟩ := hp
    obtain ⟨a2, c2, f2, hc2, hm2, hx2⟩ := hq
    obtain ⟨a3, c3, f3, hc3, hm3, hx3⟩ := hp'
    obtain ⟨a4, c4, f4, hc4, hm4, hx4⟩ := hq'
    subst f1 f2 f3 f4
    dsimp only
    have HX1 := Lib.hid hx1
    have HX2 := Lib.hid hx2
    have HX3 := Lib.hid hx3
    have HX4 := Lib.hid hx4
    have HS1 := Lib.hid hsub
    have HS2 := Lib.hid hsub'
    have HC := Lib.hid hc
    have HC' := Lib.hid hc'
    have IH := Lib.hid ih
    have HBB := Lib.hid hB
    clear hx1 hx2 hx3 hx4 hc1 hc2 hc3 hc4 hm3 hm4 hsub hsub' hc hc' ih hB
    obtain ⟨b2, hb2⟩ : ∃ b, eqPts pts pts' = b := ⟨_, rfl⟩
    obtain ⟨b3, hb3⟩ : ∃ b, eqsS ps ps' = b := ⟨_, rfl⟩
    have S := (Blk.new w #[.int .i64 k, .slice a1 pts.length c1, .slice a2 cs.length c2] 25).alloc (.cells #[.int .i64 k', .slice a3 pts'.length c3, .slice a4 cs'.length c4] 25)
    have R := Blk.new_at (W := w.alloc (.cells #[.int .i64 k, .slice a1 pts.length c1, .slice a2 cs.length c2] 25)) (g := w.heap.size + 1) (by simp) #[.int .i64 k', .slice a3 pts'.length c3, .slice a4 cs'.length c4] 25
    have HB : Hid (Below w.heap.size w ((w.alloc (.cells #[.int .i64 k, .slice a1 pts.length c1, .slice a2 cs.length c2] 25)).alloc (.cells #[.int .i64 k', .slice a3 pts'.length c3, .slice a4 cs'.length c4] 25))) := Lib.hid (by repeat (first | exact Below.refl _ _ | refine Below.alloc ?_ (by simp <;> omega) _))
    have bad : ∀ r, r = false → (k != k' || (pts.length : Int) != pts'.length || (cs.length : Int) != cs'.length) = true → Calls Tryd.prog 31 #[.agg #[.int .i64 k, .slice a1 pts.length c1, .slice a2 cs.length c2], .agg #[.int .i64 k', .slice a3 pts'.length c3, .slice a4 cs'.length c4]] w fun e w' => e = .returned (.bool r) ∧ Bel w w' := by
      clear hb2 hb3 HX1 HX2 HX3 HX4 HS1 HS2 HC HC' IH HBB
      intro r hr hbad
      subst hr
      cases hv1 : (k != k') <;> cases hv2 : ((pts.length : Int) != pts'.length) <;> cases hv3 : ((cs.length : Int) != cs'.length)
      case false.false.false => rw [hv1, hv2, hv3] at hbad; cases hbad
      all_goals
        clear hbad
        go_enter Tryd.func31, Tryd.ntmps31
        go_upto_region 1 with (fail)
        obtain ⟨W, hW⟩ : ∃ W, (w.alloc (.cells #[.int .i64 k, .slice a1 pts.length c1, .slice a2 cs.length c2] 25)).alloc (.cells #[.int .i64 k', .slice a3 pts'.length c3, .slice a4 cs'.length c4] 25) = W := ⟨_, rfl⟩
        rw [hW] at S R HB ⊢
        clear hW
        obtain ⟨s0, s1, s2⟩ := Blk.cells3 S
        obtain ⟨r0, r1, r2⟩ := Blk.cells3 R
        go_wp2_with (fail)
        go_ret
        exact ⟨by first | rfl | simp, HB.out⟩
    by_cases hkk : k = k'
    case neg => exact bad _ (by rw [beq_eq_false_iff_ne.2 hkk]; rfl) (by simp [hkk])
    by_cases hlp : pts.length = pts'.length
    case neg => exact bad _ (by rw [MShape.eqPts_len hlp]; simp) (by rw [show ((pts.length : Int) != pts'.length) = true by simp; omega]; simp)
    by_cases hlq : cs.length = cs'.length
    case neg => exact bad _ (by rw [MShape.eqsS_len (by have := HC.out; have := HC'.out; omega)]; simp) (by rw [show ((cs.length : Int) != cs'.length) = true by simp; omega]; simp)
    clear bad
    subst hkk
    rw [hb2, hb3, beq_self_eq_true, Bool.true_and]
    rw [← hlp, ← hlq] at S R HB ⊢
    have HLP := Lib.hid hlp
    have HLQ := Lib.hid hlq
    have HR2 := Lib.hid hb2
    have HR3 := Lib.hid hb3
    have HNE := Lib.hid nePt
    clear hlp hlq hb2 hb3
    have hv1 : (k != k) = false := by simp
    have hv2 : ((pts.length : Int) != pts.length) = false := by simp
    have hv3 : ((cs.length : Int) != cs.length) = false := by simp
    go_enter Tryd.func31, Tryd.ntmps31
    go_upto_region 1 with (fail)
    obtain ⟨W, hW⟩ : ∃ W, (w.alloc (.cells #[.int .i64 k, .slice a1 pts.length c1, .slice a2 cs.length c2] 25)).alloc (.cells #[.int .i64 k, .slice a3 pts.length c3, .slice a4 cs.length c4] 25) = W := ⟨_, rfl⟩
    rw [hW] at S R HB ⊢
    clear hW
    obtain ⟨s0, s1, s2⟩ := Blk.cells3 S
    obtain ⟨r0, r1, r2⟩ := Blk.cells3 R
    go_wp2_with (fail)
    clear hv1 hv2 hv3 s0 s1 s2 r0 r1 r2
    have hgw := Blk.lt S
    have hgr := Blk.lt R
    have KB : Hid (KeepB B w W) := Lib.hid (KeepB.bel HB.out)
    have HG := Lib.hid HB.out.size
    obtain ⟨gw, hg⟩ : ∃ g, w.heap.size = g := ⟨_, rfl⟩
    rw [hg] at S R hgw hgr ⊢
    obtain ⟨gr, hg'⟩ : ∃ g, gw + 1 = g := ⟨_, rfl⟩
    rw [hg'] at R hgr ⊢
    clear hg hg'
    go_loopw [33] (fun i wr => ∃ (k : Nat), i = .int .i64 k ∧ k ≤ pts.length ∧ Hid (Bel W wr) ∧ Hid (eqPts (pts.drop k) (pts'.drop k) = b2)) (fun i _ => pts.length - (intOf i).toNat)
    case atStart => exact ⟨0, rfl, by omega, Lib.hid (Below.refl _ _), Lib.hid (by rw [List.drop_zero, List.drop_zero]; exact HR2.out)⟩
    case round =>
      obtain ⟨j, rfl, hk, HBk, HRk⟩ := hrel
      obtain ⟨s0, s1, s2⟩ := Blk.cells3 (Blk.bel S HBk.out)
      obtain ⟨r0, r1, r2⟩ := Blk.cells3 (Blk.bel R HBk.out)
      by_cases hlt : j < pts.length
      · have hlt2 : j < pts'.length := by have := HLP.out; omega
        obtain ⟨b, off, rfl, hbb, x0, y0⟩ := HX1.out j hlt
        obtain ⟨b', off', rfl, hbb', x1, y1⟩ := HX3.out j hlt2
        have hrk := HRk.out
        rw [List.drop_eq_getElem_cons hlt, List.drop_eq_getElem_cons hlt2] at hrk
        obtain ⟨p, hp⟩ : ∃ p, pts[j] = p := ⟨_, rfl⟩
        obtain ⟨q, hq⟩ : ∃ p, pts'[j] = p := ⟨_, rfl⟩
        rw [hp] at x0 y0 hrk
        rw [hq] at x1 y1 hrk
        have hrk : ((p.1 == q.1 && p.2 == q.2) && eqPts (pts.drop (j + 1)) (pts'.drop (j + 1))) = b2 := hrk
        have KK : KeepB B w wr := KB.out.trans (KeepB.bel HBk.out)
        have x0 := KK.cell hbb x0
        have y0 := KK.cell hbb y0
        have x1 := KK.cell hbb' x1
        have y1 := KK.cell hbb' y1
        have HRN := Lib.hid hrk
        have q1 := HNE.out p.1 p.2 q.1 q.2
        clear hp hq hrk hlt2 HRk KK
        go_upto_region 6 with (fail)
        cases hpq : (p.1 == q.1 && p.2 == q.2)
        · rw [hpq] at HRN q1
          have HPQ := Lib.hid hpq
          clear hpq
          go_quiet (fail)
          go_wp2
          go_ret
          have hrf := HRN.out
          rw [Bool.false_and] at hrf
          exact ⟨by rw [← hrf]; rfl, bthen HB.out (below_drewN HBk.out _)⟩
        · rw [hpq] at HRN q1
          have HPQ := Lib.hid hpq
          clear hpq
          go_quiet (fail)
          go_wp2
          go_roundw
          case rel => exact ⟨j + 1, by go_num, by omega, Lib.hid (below_drewN HBk.out _), Lib.hid (by have := HRN.out; rwa [Bool.true_and] at this)⟩
          case measure => (simp [intOf] <;> omega)
      · have : j = pts.length := by omega
        subst this
        have hre : b2 = true := by have := HRk.out; rw [List.drop_length, HLP.out, List.drop_length] at this; exact this.symm
        subst hre
        have HL1 : Hid (¬ pts.length < pts.length) := Lib.hid hlt
        clear hk HRk HR2 HL1
        go_wp2_with (fail)
        clear s0 s1 s2 r0 r1 r2
        go_loopw [51] (fun i wr => ∃ (k : Nat), i = .int .i64 k ∧ k ≤ cs.length ∧ Hid (Bel W wr) ∧ Hid (eqsS (ps.drop k) (ps'.drop k) = b3)) (fun i _ => cs.length - (intOf i).toNat)
        case atStart => exact ⟨0, rfl, by omega, HBk, Lib.hid (by rw [List.drop_zero, List.drop_zero]; exact HR3.out)⟩
        case round =>
          clear HBk
          obtain ⟨j, rfl, hk, HBk, HRk⟩ := hrel
          by_cases hlt : j < cs.length
          · have hlt2 : j < cs'.length := by have := HLQ.out; omega
            have hp1 : j < ps.length := by have := HC.out; omega
            have hp2 : j < ps'.length := by have := HC'.out; omega
            obtain ⟨b, off, rfl, hb1, x0, x1, x2⟩ := HX2.out j hlt
            obtain ⟨b', off', rfl, hb2, y0, y1, y2⟩ := HX4.out j hlt2
            have hsp := HS1.out j _ _ (List.getElem?_eq_getElem hlt) (List.getElem?_eq_getElem hp1)
            have hsq := HS2.out j _ _ (List.getElem?_eq_getElem hlt2) (List.getElem?_eq_getElem hp2)
            have hrk := HRk.out
            rw [List.drop_eq_getElem_cons hp1, List.drop_eq_getElem_cons hp2, eqsS_cons] at hrk
            obtain ⟨x, hx⟩ : ∃ p, cs[j] = p := ⟨_, rfl⟩
            obtain ⟨y, hy⟩ : ∃ p, cs'[j] = p := ⟨_, rfl⟩
            obtain ⟨p, hp⟩ : ∃ p, ps[j] = p := ⟨_, rfl⟩
            obtain ⟨q, hq⟩ : ∃ p, ps'[j] = p := ⟨_, rfl⟩
            rw [hx] at x0 x1 x2 hsp
            rw [hy] at y0 y1 y2 hsq
            rw [hp] at hsp hrk
            rw [hq] at hsq hrk
            have KK : KeepB B w wr := KB.out.trans (KeepB.bel HBk.out)
            obtain ⟨kd, u1, u2, u3, u4, u5, u6, rfl⟩ := hsp.forms
            obtain ⟨kd', z1, z2, z3, z4, z5, z6, rfl⟩ := hsq.forms
            dsimp only at x0 x1 x2 y0 y1 y2
            have HSP := Lib.hid (hsp.keep KK)
            have HSQ := Lib.hid (hsq.keep KK)
            have hS0 : wr.cell? ⟨gw, 2, none⟩ = some (.slice (some ⟨b, off, none⟩) cs.length c2) ∧ wr.cell? ⟨gr, 2, none⟩ = some (.slice (some ⟨b', off', none⟩) cs.length c4) ∧ wr.cell? ⟨b, off + j * 3, none⟩ = some (.int .i64 kd) ∧ wr.cell? ⟨b, off + j * 3 + 1, none⟩ = some (.slice u1 u2 u3) ∧ wr.cell? ⟨b, off + j * 3 + 2, none⟩ = some (.slice u4 u5 u6) ∧ wr.cell? ⟨b', off' + j * 3, none⟩ = some (.int .i64 kd') ∧ wr.cell? ⟨b', off' + j * 3 + 1, none⟩ = some (.slice z1 z2 z3) ∧ wr.cell? ⟨b', off' + j * 3 + 2, none⟩ = some (.slice z4 z5 z6) ∧ Bel wr wr := And.intro (Blk.cell (Blk.bel S HBk.out) 2 rfl) (And.intro (Blk.cell (Blk.bel R HBk.out) 2 rfl) (And.intro (KK.cell hb1 x0) (And.intro (KK.cell hb1 x1) (And.intro (KK.cell hb1 x2) (And.intro (KK.cell hb2 y0) (And.intro (KK.cell hb2 y1) (And.intro (KK.cell hb2 y2) (Bel.refl wr))))))))
            have HSZ := Lib.hid (show B ≤ wr.heap.size by have := HBk.out.size; have := HG.out; have := HBB.out; omega)
            have HRN := Lib.hid hrk
            obtain ⟨bq, hbq⟩ : ∃ t, eqS p q = t := ⟨_, rfl⟩
            have HCALL : Hid (∀ w', (w'.cell? ⟨gw, 2, none⟩ = some (.slice (some ⟨b, off, none⟩) cs.length c2) ∧ w'.cell? ⟨gr, 2, none⟩ = some (.slice (some ⟨b', off', none⟩) cs.length c4) ∧ w'.cell? ⟨b, off + j * 3, none⟩ = some (.int .i64 kd) ∧ w'.cell? ⟨b, off + j * 3 + 1, none⟩ = some (.slice u1 u2 u3) ∧ w'.cell? ⟨b, off + j * 3 + 2, none⟩ = some (.slice u4 u5 u6) ∧ w'.cell? ⟨b', off' + j * 3, none⟩ = some (.int .i64 kd') ∧ w'.cell? ⟨b', off' + j * 3 + 1, none⟩ = some (.slice z1 z2 z3) ∧ w'.cell? ⟨b', off' + j * 3 + 2, none⟩ = some (.slice z4 z5 z6) ∧ Bel wr w') → Calls Tryd.prog 31 #[.agg #[.int .i64 kd, .slice u1 u2 u3, .slice u4 u5 u6], .agg #[.int .i64 kd', .slice z1 z2 z3, .slice z4 z5 z6]] w' fun e w'' => e = .returned (.bool bq) ∧ Bel w' w'') := Lib.hid (fun w' h => by
              have h9 := IH.out D' p q _ _ w' B (by have := h.2.2.2.2.2.2.2.2.size; have := HSZ.out; omega) (HSP.out.keep (KeepB.bel h.2.2.2.2.2.2.2.2)) (HSQ.out.keep (KeepB.bel h.2.2.2.2.2.2.2.2))
              rw [hbq] at h9
              exact h9)
            rw [hbq] at HRN
            have HBQ := Lib.hid hbq
            clear hx hy hp hq hrk hlt2 HRk hp1 hp2 hsp hsq KK x0 x1 x2 y0 y1 y2 hbq
            have hlz : (j : Int) < cs.length := by omega
            have hjz : (0 : Int) ≤ (j : Int) := by omega
            go_upto_region 12 with (fail)
            cases bq
            all_goals
              go_region_held3 (fun w' => w'.cell? ⟨gw, 2, none⟩ = some (.slice (some ⟨b, off, none⟩) cs.length c2) ∧ w'.cell? ⟨gr, 2, none⟩ = some (.slice (some ⟨b', off', none⟩) cs.length c4) ∧ w'.cell? ⟨b, off + j * 3, none⟩ = some (.int .i64 kd) ∧ w'.cell? ⟨b, off + j * 3 + 1, none⟩ = some (.slice u1 u2 u3) ∧ w'.cell? ⟨b, off + j * 3 + 2, none⟩ = some (.slice u4 u5 u6) ∧ w'.cell? ⟨b', off' + j * 3, none⟩ = some (.int .i64 kd') ∧ w'.cell? ⟨b', off' + j * 3 + 1, none⟩ = some (.slice z1 z2 z3) ∧ w'.cell? ⟨b', off' + j * 3 + 2, none⟩ = some (.slice z4 z5 z6) ∧ Bel wr w') (first | with_reducible assumption | with_reducible exact kwE hb (by assumption) | with_reducible exact kwE (Bel.drew _) hS0)
                (first | (go_at_call 31; refine (HCALL.out _ (by assumption)).mono ?_; rintro e w' ⟨rfl, hb⟩))
            · go_wp2
              go_ret
              have hrf := HRN.out
              rw [Bool.false_and] at hrf
              have hBw : Bel wr w' := by first | assumption | (rename_i h9; exact h9.2.2.2.2.2.2.2.2)
              exact ⟨by rw [← hrf]; first | rfl | simp, bthen HB.out (bthen HBk.out hBw)⟩
            · have hBw : Bel wr w' := by first | assumption | (rename_i h9; exact h9.2.2.2.2.2.2.2.2)
              go_wp2
              go_roundw
              case rel => exact ⟨j + 1, by go_num, by omega, Lib.hid (bthen HBk.out hBw), Lib.hid (by have := HRN.out; rwa [Bool.true_and] at this)⟩
              case measure => (simp [intOf] <;> omega)
          · have : j = cs.length := by omega
            subst this
            have hre : b3 = true := by have := HRk.out; rw [HC.out, List.drop_length, ← HC.out, HLQ.out, HC'.out, List.drop_length, eqsS_nil] at this; exact this.symm
            subst hre
            clear hlt hk HRk HR3
            go_wp2
            go_ret
            exact ⟨by first | rfl | simp, bthen HB.out HBk.out⟩
end Go.Proofs.YtfknhpgelleenaaDoor.K
end
