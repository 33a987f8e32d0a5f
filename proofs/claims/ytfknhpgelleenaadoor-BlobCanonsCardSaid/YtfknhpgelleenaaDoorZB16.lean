/- What a claim leans on, part 16, cut by a program out of the texts WLight WPCnt WPCnt2. -/
import Derived.Handy
import Derived.IntWalk
import Derived.BigRegion
import Derived.Test.YtfknhpgelleenaaDoorZB4
import Derived.Test.YtfknhpgelleenaaDoorZB15
section
namespace Go.Proofs.YtfknhpgelleenaaDoor.K
open Go Go.RowKit Go.Proofs.YtfknhpgelleenaaDoorW.PrintWords Go.Proofs.YtfknhpgelleenaaDoorW.PrintLast Go.Proofs.YtfknhpgelleenaaDoorW.PrintMore
set_option linter.unusedVariables false
set_option linter.unusedSimpArgs false
open Go.Proofs.YtfknhpgelleenaaDoor.MShape (Sh Cn cnt cnts own1 deeper goes full)
set_option maxHeartbeats 1000000 in
set_option maxRecDepth 100000 in
theorem rOf_calls (D : Nat) (s : Sh) (c : Value × Value × Value) (w : World) (B : Nat) (hB : B ≤ w.heap.size) (hs : ShB B w D c s) :
    Calls Tryd.prog 71 #[.agg #[c.1, c.2.1, c.2.2]] w fun e w' => e = .returned (.agg (cnCells (MShape.count s))) ∧ Bel w w' ∧ cnOk (MShape.count s) := by
  have HC := Lib.hid (fun c W q B h1 h2 h3 => rcount_calls D s c W q B 1 MShape.c0 h1 h2 h3 (by omega) (by omega) ⟨MShape.c0_in, by decide, by decide⟩)
  have HS := Lib.hid hs
  obtain ⟨cn, hcn⟩ : ∃ x, MShape.count s = x := ⟨_, rfl⟩
  rw [show cnt s 1 MShape.c0 = cn from hcn] at HC
  rw [hcn]
  clear hcn
  obtain ⟨kd, a, n, m, a', n', m', rfl⟩ := hs.forms
  dsimp only
  clear hs
  have S := ((Blk.new w #[.int .i64 kd, .slice a n m, .slice a' n' m'] 25).alloc (.cells #[.int .i64 0, .int .i64 0, .int .i64 0] 101)).alloc (.cells #[.int .i64 0, .int .i64 (-1), .int .i64 0] 101)
  have R := (Blk.new_at (W := w.alloc (.cells #[.int .i64 kd, .slice a n m, .slice a' n' m'] 25)) (g := w.heap.size + 1) (by simp) #[.int .i64 0, .int .i64 0, .int .i64 0] 101).alloc (.cells #[.int .i64 0, .int .i64 (-1), .int .i64 0] 101)
  have C := Blk.new_at (W := (w.alloc (.cells #[.int .i64 kd, .slice a n m, .slice a' n' m'] 25)).alloc (.cells #[.int .i64 0, .int .i64 0, .int .i64 0] 101)) (g := w.heap.size + 1 + 1) (by simp) #[.int .i64 0, .int .i64 (-1), .int .i64 0] 101
  have HB : Hid (Below w.heap.size w (((w.alloc (.cells #[.int .i64 kd, .slice a n m, .slice a' n' m'] 25)).alloc (.cells #[.int .i64 0, .int .i64 0, .int .i64 0] 101)).alloc (.cells #[.int .i64 0, .int .i64 (-1), .int .i64 0] 101))) := Lib.hid (by repeat (first | exact Below.refl _ _ | refine Below.alloc ?_ (by simp <;> omega) _))
  go_enter Tryd.func71, Tryd.ntmps71
  go_upto_region 2 with (fail)
  obtain ⟨W, hW⟩ : ∃ W, (((w.alloc (.cells #[.int .i64 kd, .slice a n m, .slice a' n' m'] 25)).alloc (.cells #[.int .i64 0, .int .i64 0, .int .i64 0] 101)).alloc (.cells #[.int .i64 0, .int .i64 (-1), .int .i64 0] 101)) = W := ⟨_, rfl⟩
  rw [hW] at S R C HB ⊢
  clear hW
  obtain ⟨s0, s1, s2⟩ := Blk.cells3 S
  have hcall := HC.out (.int .i64 kd, .slice a n m, .slice a' n' m') W (w.heap.size + 1 + 1) B (by omega) (HS.out.keep (KeepB.bel HB.out)) C
  clear HC
  have HCALL := Lib.hid hcall
  clear hcall
  go_upto_region 3 with (go_at_call 90; refine (HCALL.out).mono ?_; rintro e w1 ⟨rfl, hc1, hg1, hok1⟩; have C1 := Lib.hid hc1; have R1 := Blk.grow1 R hg1 (by omega); have HB1 := Lib.hid (Below.grown HB.out hg1 HB.out.size (fun j e => by cases e; omega)); have HOK := Lib.hid hok1; clear hc1 hg1 hok1)
  obtain ⟨P, Q, E⟩ := cn
  have C2 : Blk w1 (w.heap.size + 1 + 1) #[.int .i64 P, .int .i64 Q, .int .i64 E] 101 := C1.out
  obtain ⟨c0, c1, c2⟩ := Blk.cells3 C2
  obtain ⟨r0, r1, r2⟩ := Blk.cells3 R1
  have f0 := R1.froz 0; have f1 := R1.froz 1; have f2 := R1.froz 2
  have R2 := Blk.set3 R1 (x' := .int .i64 P) (y' := .int .i64 Q) (z' := .int .i64 E)
  go_wp2
  refine bodyPost_ret (v := .agg #[.int .i64 P, .int .i64 Q, .int .i64 E]) ?_ rfl ⟨rfl, below_set3 HB1.out (by omega) _ _ _, HOK.out⟩
  obtain ⟨q0, q1, q2⟩ := Blk.cells3 R2
  simp [results, Tryd.results71, go_sem, q0, q1, q2]
/-- A shape's block, and what it leads to. -/
def LS (B D : Nat) (s : Sh) (c : Value × Value × Value) (g : Nat) (W : World) : Prop := Blk W g #[c.1, c.2.1, c.2.2] 25 ∧ (B ≤ W.heap.size ∧ ShB B W D c s)
theorem LS.bel {B D g : Nat} {s : Sh} {c : Value × Value × Value} {W W' : World} (h : LS B D s c g W) (hb : Bel W W') : LS B D s c g W' := ⟨h.1.bel hb, Nat.le_trans h.2.1 hb.size, h.2.2.keep (KeepB.bel hb)⟩
end Go.Proofs.YtfknhpgelleenaaDoor.K
end
section
namespace Go.Proofs.YtfknhpgelleenaaDoor.K
open Go Go.RowKit Go.Proofs.YtfknhpgelleenaaDoorW.PrintWords Go.Proofs.YtfknhpgelleenaaDoorW.PrintLast Go.Proofs.YtfknhpgelleenaaDoorW.PrintMore
set_option linter.unusedVariables false
set_option linter.unusedSimpArgs false
open Go.Proofs.YtfknhpgelleenaaDoor.MShape (Sh Cn cnt cnts own1 deeper goes full)
theorem mx_max (a b : Int) : (if a < b then b else a) = MShape.mx a b := rfl
theorem mn_min (a b : Int) : (if b < a then b else a) = MShape.mn a b := by unfold MShape.mn; split <;> split <;> omega
theorem goes_of {k k' d dd : Int} (h : deeper k k' d = dd) {pts : List (Int × Int)} {ps : List Sh} {c : Cn} : goes k (.mk k' pts ps) d c = (decide (dd ≤ 17) && !full c) := by
  rw [← h]; rfl
theorem cnts_cons (k : Int) (p : Sh) (ps : List Sh) (d : Int) (c : Cn) : cnts k (p :: ps) d c = cnts k ps d (if goes k p d c = true then cnt p (deeper k p.kind d) c else c) := rfl
theorem px0 {P n : Int} (h1 : 4001 < n) (h2 : 4001 < P + 4001) : MShape.mn (P + MShape.mn n 4001) 4001 = 4001 := by
  have a := MShape.mn_iff n 4001
  have b := MShape.mn_iff (P + MShape.mn n 4001) 4001
  omega
theorem px1 {P n : Int} (h1 : 4001 < n) (h2 : ¬ 4001 < P + 4001) : MShape.mn (P + MShape.mn n 4001) 4001 = P + 4001 := by
  have a := MShape.mn_iff n 4001
  have b := MShape.mn_iff (P + MShape.mn n 4001) 4001
  omega
theorem px2 {P n : Int} (h1 : ¬ 4001 < n) (h2 : 4001 < P + n) : MShape.mn (P + MShape.mn n 4001) 4001 = 4001 := by
  have a := MShape.mn_iff n 4001
  have b := MShape.mn_iff (P + MShape.mn n 4001) 4001
  omega
theorem px3 {P n : Int} (h1 : ¬ 4001 < n) (h2 : ¬ 4001 < P + n) : MShape.mn (P + MShape.mn n 4001) 4001 = P + n := by
  have a := MShape.mn_iff n 4001
  have b := MShape.mn_iff (P + MShape.mn n 4001) 4001
  omega
set_option maxHeartbeats 1000000 in
set_option maxRecDepth 100000 in
theorem full_calls (st : Cn) (q : Nat) (w : World) (hq : Blk w q (cnCells st) 79) (r : Bool) (hr : full st = r) :
    Calls Tryd.prog 109 #[.pointer (some ⟨q, 0, none⟩)] w fun e w' => e = .returned (.bool r) ∧ w = w' := by
  subst hr
  obtain ⟨P, R, D⟩ := st
  have hq' : Blk w q #[.int .i64 P, .int .i64 R, .int .i64 D] 79 := hq
  obtain ⟨q0, q1, q2⟩ := Blk.cells3 hq'
  have hv : full ⟨P, R, D⟩ = (decide (4000 < P) && (decide (1000 < R) && decide (16 < D))) := rfl
  rw [hv]
  clear hv hq hq'
  have key : ∀ (b1 b2 : Bool), decide (4000 < P) = b1 → decide (1000 < R) = b2 → Calls Tryd.prog 109 #[.pointer (some ⟨q, 0, none⟩)] w fun e w' => e = .returned (.bool (b1 && (b2 && decide (16 < D)))) ∧ w = w' := by
    intro b1 b2 h1 h2
    cases b1 <;> cases b2
    all_goals
      go_enter Tryd.func109, Tryd.ntmps109
      go_wp2
      go_ret
      exact ⟨by first | rfl | simp, rfl⟩
  exact key _ _ rfl rfl
set_option maxHeartbeats 4000000 in
set_option maxRecDepth 100000 in
theorem add_calls : ∀ (D : Nat) (s : Sh) (c : Value × Value × Value) (W : World) (q B : Nat) (d : Int) (st : Cn), B ≤ q → ShB B W D c s → Blk W q (cnCells st) 79 → 0 ≤ d → d ≤ 17 → cnOk st →
    Calls Tryd.prog 80 #[.pointer (some ⟨q, 0, none⟩), .agg #[c.1, c.2.1, c.2.2], .int .i64 d] W fun e w' => e = .returned (.tuple #[]) ∧ Blk w' q (cnCells (cnt s d st)) 79 ∧ W.grownBy w' (some q) ∧ cnOk (cnt s d st) := by
  intro D
  induction D with
  | zero => intro s c W q B d st _ h; exact h.elim
  | succ D ih =>
    intro s c W q B d st hBq hs hq hd0 hd1 hok
    have IH := Lib.hid ih
    clear ih
    obtain ⟨kind, pts, ps⟩ := s
    obtain ⟨e0, ⟨a1, c1, e1, hc1, hm1, -⟩, cs, hcs, ⟨a2, c2, e2, hc2, hm2, hx2⟩, hsub⟩ := hs
    obtain ⟨v0, v1, v2⟩ := c
    simp only at e0 e1 e2
    subst e0 e1 e2
    dsimp only
    have HX := Lib.hid hx2
    have HSUB := Lib.hid hsub
    have HCS := Lib.hid hcs
    clear hx2 hsub hcs
    have HQ0 := Blk.lt hq
    unfold cnCells at hq
    obtain ⟨⟨hp0, hp1, hr0, hr1⟩, hz0, hz1⟩ := hok
    have HOK : Hid (cnOk st) := Lib.hid ⟨⟨hp0, hp1, hr0, hr1⟩, hz0, hz1⟩
    obtain ⟨P0, R0, D0⟩ := st
    dsimp only at hq hp0 hp1 hr0 hr1 hz0 hz1
    obtain ⟨fin, hfin⟩ : ∃ f, cnt (.mk kind pts ps) d ⟨P0, R0, D0⟩ = f := ⟨_, rfl⟩
    rw [hfin]
    have HFIN := Lib.hid hfin
    clear hfin
    have hqs : q ≠ W.heap.size := by omega
    have S := Blk.new W #[.int .i64 kind, .slice a1 pts.length c1, .slice a2 cs.length c2] 25
    have Q := Blk.alloc hq (.cells #[.int .i64 kind, .slice a1 pts.length c1, .slice a2 cs.length c2] 25)
    have HG := Lib.hid (grown_bel ((Bel.refl W).alloc (Nat.le_refl _) (.cells #[.int .i64 kind, .slice a1 pts.length c1, .slice a2 cs.length c2] 25)) q)
    clear hq
    go_enter Tryd.func80, Tryd.ntmps80
    go_upto_region 1 with (fail)
    obtain ⟨W1, hW⟩ : ∃ X, W.alloc (.cells #[.int .i64 kind, .slice a1 pts.length c1, .slice a2 cs.length c2] 25) = X := ⟨_, rfl⟩
    rw [hW] at S Q HG ⊢
    clear hW
    obtain ⟨g, hg⟩ : ∃ g, W.heap.size = g := ⟨_, rfl⟩
    rw [hg] at S hqs ⊢
    have hgW := Lib.hid hg
    clear hg
    obtain ⟨q0, q1, q2⟩ := Blk.cells3 Q
    have f2 := Q.froz 2
    go_upto_region 2 with (fail)
    have Q2 : Blk (W1.setCell ⟨q, 2, none⟩ (.int .i64 (if D0 < d then d else D0))) q #[.int .i64 P0, .int .i64 R0, .int .i64 (if D0 < d then d else D0)] 79 := Q.set 2 _
    have S := Blk.grow1 S (grown_set q 2 (.int .i64 (if D0 < d then d else D0))) (by omega)
    have HG := Lib.hid (World.grownBy.trans HG.out (grown_set q 2 (.int .i64 (if D0 < d then d else D0))))
    obtain ⟨D1, hD1⟩ : ∃ x, (if D0 < d then d else D0) = x := ⟨_, rfl⟩
    have hD2 : 0 ≤ D1 ∧ D1 ≤ 17 ∧ d ≤ D1 := by rw [← hD1]; split <;> omega
    rw [hD1] at Q2 S HG ⊢
    have HD1 : Hid (MShape.mx D0 d = D1) := Lib.hid (by rw [← mx_max]; exact hD1)
    obtain ⟨w2, hW⟩ : ∃ X, W1.setCell ⟨q, 2, none⟩ (.int .i64 D1) = X := ⟨_, rfl⟩
    rw [hW] at Q2 S HG ⊢
    clear hW hD1 q0 q1 q2 f2 Q
    obtain ⟨q0, q1, q2⟩ := Blk.cells3 Q2
    have f1 := Q2.froz 1
    go_upto_region 3 with (fail)
    have Q3 : Blk (w2.setCell ⟨q, 1, none⟩ (.int .i64 ((if 1001 < R0 + 1 then 1001 else R0 + 1)))) q #[.int .i64 P0, .int .i64 ((if 1001 < R0 + 1 then 1001 else R0 + 1)), .int .i64 D1] 79 := Q2.set 1 _
    have S := Blk.grow1 S (grown_set q 1 (.int .i64 ((if 1001 < R0 + 1 then 1001 else R0 + 1)))) (by omega)
    have HG := Lib.hid (World.grownBy.trans HG.out (grown_set q 1 (.int .i64 ((if 1001 < R0 + 1 then 1001 else R0 + 1)))))
    obtain ⟨R1, hR1⟩ : ∃ x, (if 1001 < R0 + 1 then 1001 else R0 + 1) = x := ⟨_, rfl⟩
    rw [hR1] at Q3 S HG ⊢
    have HR1 : Hid (MShape.mn (R0 + 1) 1001 = R1) := Lib.hid (by rw [← mn_min]; exact hR1)
    obtain ⟨w3, hW⟩ : ∃ X, w2.setCell ⟨q, 1, none⟩ (.int .i64 R1) = X := ⟨_, rfl⟩
    rw [hW] at Q3 S HG ⊢
    clear hW hR1 q0 q1 q2 f1 Q2
    obtain ⟨q0, q1, q2⟩ := Blk.cells3 Q3
    have f0 := Q3.froz 0
    obtain ⟨s0, s1, s2⟩ := Blk.cells3 S
    obtain ⟨PX, hPX⟩ : ∃ x, x = MShape.mn (P0 + MShape.mn (pts.length : Int) 4001) 4001 := ⟨_, rfl⟩
    have HPX := Lib.hid hPX
    clear hPX
    go_cut [] (fun w' => w3.grownBy w' (some q) ∧ Blk w' q #[.int .i64 PX, .int .i64 R1, .int .i64 D1] 79)
    case first =>
      by_cases h1 : 4001 < (pts.length : Int)
      · by_cases h2 : 4001 < P0 + 4001
        · have HV : Hid (PX = 4001) := Lib.hid (HPX.out.trans (px0 h1 h2))
          have hwr : IntKind.i64.wrap (P0 + 4001) = P0 + 4001 := IntWalk.i64_in _ (by omega)
          go_region
          go_wp2_with fail
          go_meet
          refine ⟨only_drew (grown_set q 0 _), ?_⟩
          rw [HV.out]
          exact Q3.set 0 _
        · have HV : Hid (PX = P0 + 4001) := Lib.hid (HPX.out.trans (px1 h1 h2))
          have hwr : IntKind.i64.wrap (P0 + 4001) = P0 + 4001 := IntWalk.i64_in _ (by omega)
          go_region
          go_wp2_with fail
          go_meet
          refine ⟨only_drew (grown_set q 0 _), ?_⟩
          rw [HV.out]
          exact Q3.set 0 _
      · by_cases h2 : 4001 < P0 + (pts.length : Int)
        · have HV : Hid (PX = 4001) := Lib.hid (HPX.out.trans (px2 h1 h2))
          have hwr : IntKind.i64.wrap (P0 + (pts.length : Int)) = P0 + (pts.length : Int) := IntWalk.i64_in _ (by omega)
          go_region
          go_wp2_with fail
          go_meet
          refine ⟨only_drew (grown_set q 0 _), ?_⟩
          rw [HV.out]
          exact Q3.set 0 _
        · have HV : Hid (PX = P0 + (pts.length : Int)) := Lib.hid (HPX.out.trans (px3 h1 h2))
          have hwr : IntKind.i64.wrap (P0 + (pts.length : Int)) = P0 + (pts.length : Int) := IntWalk.i64_in _ (by omega)
          go_region
          go_wp2_with fail
          go_meet
          refine ⟨only_drew (grown_set q 0 _), ?_⟩
          rw [HV.out]
          exact Q3.set 0 _
    obtain ⟨hgr, Q4⟩ := hcut
    rw [HPX.out] at Q4
    have S := Blk.grow1 S hgr (by omega)
    have HG := Lib.hid (World.grownBy.trans HG.out hgr)
    clear hgr q0 q1 q2 f0 s0 s1 s2 Q3
    have hown := MShape.own1_le pts.length d ⟨P0, R0, D0⟩ HOK.out.1
    have hst : own1 pts.length d ⟨P0, R0, D0⟩ = ⟨MShape.mn (P0 + MShape.mn (pts.length : Int) 4001) 4001, R1, D1⟩ := by unfold own1; simp only [HR1.out, HD1.out]
    rw [hst] at hown
    obtain ⟨P1, hP1⟩ : ∃ x, MShape.mn (P0 + MShape.mn (pts.length : Int) 4001) 4001 = x := ⟨_, rfl⟩
    rw [hP1] at hown hst Q4
    have HO1 : Hid (cnOk ⟨P1, R1, D1⟩) := Lib.hid ⟨hown.2.1, hD2.1, hD2.2.1⟩
    have HF1 : Hid (cnts kind ps d ⟨P1, R1, D1⟩ = fin) := Lib.hid (by rw [← HFIN.out, ← hst]; rfl)
    clear hown hst hP1 HFIN HOK HR1 HD1 hD2 hp0 hp1 hr0 hr1 hz0 hz1
    obtain ⟨w4, hW⟩ : ∃ X, wc = X := ⟨_, rfl⟩
    rw [hW] at Q4 S HG ⊢
    clear hW
    obtain ⟨s0, s1, s2⟩ := Blk.cells3 S
    have Q4h : Hid (Blk w4 q (cnCells ⟨P1, R1, D1⟩) 79) := Lib.hid Q4
    clear Q4
    have hcl : ps.length = cs.length := HCS.out.symm
    have HPL := Lib.hid hcl
    clear hcl
    go_wp2_with fail
    go_loopw [43] (fun i wr => ∃ (k : Nat) (sk : Cn), i = .int .i64 k ∧ k ≤ cs.length ∧ Hid (w4.grownBy wr (some q)) ∧ Hid (Blk wr q (cnCells sk) 79) ∧ Hid (cnOk sk) ∧ Hid (cnts kind (ps.drop k) d sk = fin)) (fun i _ => cs.length - (intOf i).toNat)
    case atStart => exact ⟨0, _, rfl, by omega, Lib.hid (World.grownBy.refl _ _), Q4h, HO1, Lib.hid (by rw [List.drop_zero]; exact HF1.out)⟩
    case round =>
      obtain ⟨k, sk, rfl, hk, HGR, HQ, HOK, HF⟩ := hrel
      have HGW := Lib.hid (World.grownBy.trans HG.out HGR.out)
      have S5 := Blk.grow1 S HGR.out (by omega)
      clear s0 s1 s2
      by_cases hlt : k < cs.length
      · obtain ⟨b, off, rfl, hbB, x0, x1, x2⟩ := HX.out k hlt
        have hpk : k < ps.length := by have := HPL.out; omega
        have KB := KeepB.grown HGW.out hBq
        have x0 := KB.cell hbB x0
        have x1 := KB.cell hbB x1
        have x2 := KB.cell hbB x2
        have hsh := HSUB.out k cs[k] ps[k] (List.getElem?_eq_getElem hlt) (List.getElem?_eq_getElem hpk)
        have hdrop : ps.drop k = ps[k] :: ps.drop (k + 1) := (List.drop_eq_getElem_cons hpk)
        have HF2 := HF.out
        rw [hdrop] at HF2
        obtain ⟨xk, hxk⟩ : ∃ x, cs[k] = x := ⟨_, rfl⟩
        obtain ⟨pk, hpk2⟩ : ∃ x, ps[k] = x := ⟨_, rfl⟩
        rw [hxk] at x0 x1 x2 hsh
        rw [hpk2] at hsh HF2
        obtain ⟨xa, xb, xc⟩ := xk
        obtain ⟨kind', pts', ps'⟩ := pk
        have hsh0 := Lib.hid hsh
        cases D with
        | zero => exact hsh.elim
        | succ D =>
        obtain ⟨ek, ⟨ab, cb, eb, -⟩, csx, -, ⟨ac, cc, ec, -⟩, -⟩ := hsh
        dsimp only at ek eb ec x0 x1 x2
        subst ek eb ec
        obtain ⟨n1, hn1⟩ : ∃ n, pts'.length = n := ⟨_, rfl⟩
        obtain ⟨n2, hn2⟩ : ∃ n, csx.length = n := ⟨_, rfl⟩
        rw [hn1, hn2] at hsh0
        rw [hn1] at x1
        rw [hn2] at x2
        clear hn1 hn2
        have HF3 := Lib.hid HF2
        clear hxk hpk2 hdrop HF2 HF KB hpk
        obtain ⟨dd, hdd⟩ : ∃ x, deeper kind kind' d = x := ⟨_, rfl⟩
        have hdl := MShape.deeper_le kind kind' d
        rw [hdd] at hdl
        have HDD := Lib.hid hdd
        clear hdd
        have Pb := Blk.new wr #[.int .i64 kind', .slice ab n1 cb, .slice ac n2 cc] 25
        have S5 := Blk.alloc S5 (.cells #[.int .i64 kind', .slice ab n1 cb, .slice ac n2 cc] 25)
        have HQ5 := Lib.hid (Blk.alloc HQ.out (.cells #[.int .i64 kind', .slice ab n1 cb, .slice ac n2 cc] 25))
        have HGW := Lib.hid (World.grownBy.trans HGW.out (grown_bel ((Bel.refl wr).alloc (Nat.le_refl _) (.cells #[.int .i64 kind', .slice ab n1 cb, .slice ac n2 cc] 25)) q))
        have HGR := Lib.hid (World.grownBy.trans HGR.out (grown_bel ((Bel.refl wr).alloc (Nat.le_refl _) (.cells #[.int .i64 kind', .slice ab n1 cb, .slice ac n2 cc] 25)) q))
        have hqw := HQ.out.lt
        go_upto_region 7 with (fail)
        obtain ⟨w5, hW⟩ : ∃ X, wr.alloc (.cells #[.int .i64 kind', .slice ab n1 cb, .slice ac n2 cc] 25) = X := ⟨_, rfl⟩
        rw [hW] at Pb S5 HQ5 HGW HGR ⊢
        obtain ⟨gp, hg⟩ : ∃ g, wr.heap.size = g := ⟨_, rfl⟩
        rw [hg] at Pb hqw ⊢
        clear hW hg x0 x1 x2 HQ
        obtain ⟨s0, s1, s2⟩ := Blk.cells3 S5
        obtain ⟨p0, p1, p2⟩ := Blk.cells3 Pb
        by_cases hk3 : kind = 3
        · subst hk3
          by_cases hk0 : kind' = 0
          · subst hk0
            have hddv : dd = d := by rw [← HDD.out]; rfl
            subst hddv
            go_upto_region 10 with (fail)
            by_cases b1 : dd ≤ 17
            · obtain ⟨fu, hfu⟩ : ∃ b, full sk = b := ⟨_, rfl⟩
              have HFU := Lib.hid (fun W h => full_calls sk q W h fu hfu)
              have hgo := goes_of HDD.out (pts := pts') (ps := ps') (c := sk)
              rw [decide_eq_true b1, hfu, Bool.true_and] at hgo
              clear hfu
              have HC5 := Lib.hid (HFU.out w5 HQ5.out)
              cases fu with
              | true =>
                have HF5 : Hid (cnts 3 (ps.drop (k + 1)) dd sk = fin) := Lib.hid (by rw [← HF3.out, cnts_cons, hgo]; rfl)
                clear hgo HFU
                go_wp2_with (go_at_call 109; refine (HC5.out).mono ?_; rintro e w' ⟨rfl, rfl⟩)
                go_roundw
                case rel => exact ⟨k + 1, _, by go_num, by omega, HGR, HQ5, HOK, HF5⟩
                case measure => (simp [intOf] <;> omega)
              | false =>
                have HF5 : Hid (cnts 3 (ps.drop (k + 1)) dd (cnt (.mk 0 pts' ps') (dd) sk) = fin) := Lib.hid (by rw [← HF3.out, cnts_cons, hgo]; show _ = cnts 3 _ dd (cnt _ (deeper 3 0 dd) sk); rw [HDD.out])
                have HREC := Lib.hid (IH.out (.mk 0 pts' ps') (.int .i64 (0), .slice ab n1 cb, .slice ac n2 cc) w5 q B (dd) sk hBq (hsh0.out.keep (KeepB.grown HGW.out hBq)) HQ5.out (by omega) b1 HOK.out)
                clear hgo HFU
                go_wp2_with (first
                  | (go_at_call 80; refine (HREC.out).mono ?_; rintro e w9 ⟨rfl, hQ9, hg9, hok9⟩; have HQ9 := Lib.hid hQ9; have HG9 := Lib.hid (World.grownBy.trans HGR.out hg9); have HOK9 := Lib.hid hok9; clear hQ9 hg9 hok9)
                  | (go_at_call 109; refine (HC5.out).mono ?_; rintro e w' ⟨rfl, rfl⟩))
                go_roundw
                case rel => exact ⟨k + 1, _, by go_num, by omega, HG9, HQ9, HOK9, HF5⟩
                case measure => (simp [intOf] <;> omega)
            · exact absurd hd1 b1
          · have e2 := beq_false_int hk0
            have hddv : dd = d + 1 := by rw [← HDD.out]; unfold deeper; rw [if_neg (fun h => hk0 h.2)]
            subst hddv
            clear hk0
            go_upto_region 10 with (fail)
            by_cases b1 : d + 1 ≤ 17
            · obtain ⟨fu, hfu⟩ : ∃ b, full sk = b := ⟨_, rfl⟩
              have HFU := Lib.hid (fun W h => full_calls sk q W h fu hfu)
              have hgo := goes_of HDD.out (pts := pts') (ps := ps') (c := sk)
              rw [decide_eq_true b1, hfu, Bool.true_and] at hgo
              clear hfu
              have HC5 := Lib.hid (HFU.out w5 HQ5.out)
              cases fu with
              | true =>
                have HF5 : Hid (cnts 3 (ps.drop (k + 1)) d sk = fin) := Lib.hid (by rw [← HF3.out, cnts_cons, hgo]; rfl)
                clear hgo HFU
                go_wp2_with (go_at_call 109; refine (HC5.out).mono ?_; rintro e w' ⟨rfl, rfl⟩)
                go_roundw
                case rel => exact ⟨k + 1, _, by go_num, by omega, HGR, HQ5, HOK, HF5⟩
                case measure => (simp [intOf] <;> omega)
              | false =>
                have HF5 : Hid (cnts 3 (ps.drop (k + 1)) d (cnt (.mk kind' pts' ps') (d + 1) sk) = fin) := Lib.hid (by rw [← HF3.out, cnts_cons, hgo]; show _ = cnts 3 _ d (cnt _ (deeper 3 kind' d) sk); rw [HDD.out])
                have HREC := Lib.hid (IH.out (.mk kind' pts' ps') (.int .i64 (kind'), .slice ab n1 cb, .slice ac n2 cc) w5 q B (d + 1) sk hBq (hsh0.out.keep (KeepB.grown HGW.out hBq)) HQ5.out (by omega) b1 HOK.out)
                clear hgo HFU
                go_wp2_with (first
                  | (go_at_call 80; refine (HREC.out).mono ?_; rintro e w9 ⟨rfl, hQ9, hg9, hok9⟩; have HQ9 := Lib.hid hQ9; have HG9 := Lib.hid (World.grownBy.trans HGR.out hg9); have HOK9 := Lib.hid hok9; clear hQ9 hg9 hok9)
                  | (go_at_call 109; refine (HC5.out).mono ?_; rintro e w' ⟨rfl, rfl⟩))
                go_roundw
                case rel => exact ⟨k + 1, _, by go_num, by omega, HG9, HQ9, HOK9, HF5⟩
                case measure => (simp [intOf] <;> omega)
            · have hgo := goes_of HDD.out (pts := pts') (ps := ps') (c := sk)
              rw [decide_eq_false b1, Bool.false_and] at hgo
              have HF5 : Hid (cnts 3 (ps.drop (k + 1)) d sk = fin) := Lib.hid (by rw [← HF3.out, cnts_cons, hgo]; rfl)
              clear hgo
              have b2 : decide (d + 1 ≤ 17) = false := by simp; omega
              go_wp2_with fail
              go_roundw
              case rel => exact ⟨k + 1, _, by go_num, by omega, HGR, HQ5, HOK, HF5⟩
              case measure => (simp [intOf] <;> omega)
        · have e1 := beq_false_int hk3
          have hddv : dd = d + 1 := by rw [← HDD.out]; unfold deeper; rw [if_neg (fun h => hk3 h.1)]
          subst hddv
          clear hk3
          go_upto_region 10 with (fail)
          by_cases b1 : d + 1 ≤ 17
          · obtain ⟨fu, hfu⟩ : ∃ b, full sk = b := ⟨_, rfl⟩
            have HFU := Lib.hid (fun W h => full_calls sk q W h fu hfu)
            have hgo := goes_of HDD.out (pts := pts') (ps := ps') (c := sk)
            rw [decide_eq_true b1, hfu, Bool.true_and] at hgo
            clear hfu
            have HC5 := Lib.hid (HFU.out w5 HQ5.out)
            cases fu with
            | true =>
              have HF5 : Hid (cnts kind (ps.drop (k + 1)) d sk = fin) := Lib.hid (by rw [← HF3.out, cnts_cons, hgo]; rfl)
              clear hgo HFU
              go_wp2_with (go_at_call 109; refine (HC5.out).mono ?_; rintro e w' ⟨rfl, rfl⟩)
              go_roundw
              case rel => exact ⟨k + 1, _, by go_num, by omega, HGR, HQ5, HOK, HF5⟩
              case measure => (simp [intOf] <;> omega)
            | false =>
              have HF5 : Hid (cnts kind (ps.drop (k + 1)) d (cnt (.mk kind' pts' ps') (d + 1) sk) = fin) := Lib.hid (by rw [← HF3.out, cnts_cons, hgo]; show _ = cnts kind _ d (cnt _ (deeper kind kind' d) sk); rw [HDD.out])
              have HREC := Lib.hid (IH.out (.mk kind' pts' ps') (.int .i64 (kind'), .slice ab n1 cb, .slice ac n2 cc) w5 q B (d + 1) sk hBq (hsh0.out.keep (KeepB.grown HGW.out hBq)) HQ5.out (by omega) b1 HOK.out)
              clear hgo HFU
              go_wp2_with (first
                | (go_at_call 80; refine (HREC.out).mono ?_; rintro e w9 ⟨rfl, hQ9, hg9, hok9⟩; have HQ9 := Lib.hid hQ9; have HG9 := Lib.hid (World.grownBy.trans HGR.out hg9); have HOK9 := Lib.hid hok9; clear hQ9 hg9 hok9)
                | (go_at_call 109; refine (HC5.out).mono ?_; rintro e w' ⟨rfl, rfl⟩))
              go_roundw
              case rel => exact ⟨k + 1, _, by go_num, by omega, HG9, HQ9, HOK9, HF5⟩
              case measure => (simp [intOf] <;> omega)
          · have hgo := goes_of HDD.out (pts := pts') (ps := ps') (c := sk)
            rw [decide_eq_false b1, Bool.false_and] at hgo
            have HF5 : Hid (cnts kind (ps.drop (k + 1)) d sk = fin) := Lib.hid (by rw [← HF3.out, cnts_cons, hgo]; rfl)
            clear hgo
            have b2 : decide (d + 1 ≤ 17) = false := by simp; omega
            go_wp2_with fail
            go_roundw
            case rel => exact ⟨k + 1, _, by go_num, by omega, HGR, HQ5, HOK, HF5⟩
            case measure => (simp [intOf] <;> omega)
      · have : k = cs.length := by omega
        subst this
        have HF6 : Hid (sk = fin) := Lib.hid (by have := HF.out; rw [← HPL.out, List.drop_length] at this; exact this)
        clear hlt hk
        go_wp2
        go_end0
        exact ⟨rfl, by rw [← HF6.out]; exact HQ.out, HGW.out, by rw [← HF6.out]; exact HOK.out⟩
end Go.Proofs.YtfknhpgelleenaaDoor.K
end
section
namespace Go.Proofs.YtfknhpgelleenaaDoor.K
open Go Go.RowKit Go.Proofs.YtfknhpgelleenaaDoorW.PrintWords Go.Proofs.YtfknhpgelleenaaDoorW.PrintLast Go.Proofs.YtfknhpgelleenaaDoorW.PrintMore
set_option linter.unusedVariables false
set_option linter.unusedSimpArgs false
open Go.Proofs.YtfknhpgelleenaaDoor.MShape (Sh Cn cnt cnts own1 deeper goes full)
set_option maxHeartbeats 1000000 in
set_option maxRecDepth 100000 in
theorem count_calls (D : Nat) (s : Sh) (c : Value × Value × Value) (w : World) (B : Nat) (hB : B ≤ w.heap.size) (hs : ShB B w D c s) :
    Calls Tryd.prog 53 #[.agg #[c.1, c.2.1, c.2.2]] w fun e w' => e = .returned (.agg (cnCells (MShape.count s))) ∧ Bel w w' ∧ cnOk (MShape.count s) := by
  have HC := Lib.hid (fun c W q B h1 h2 h3 => add_calls D s c W q B 1 MShape.c0 h1 h2 h3 (by omega) (by omega) ⟨MShape.c0_in, by decide, by decide⟩)
  have HS := Lib.hid hs
  obtain ⟨cn, hcn⟩ : ∃ x, MShape.count s = x := ⟨_, rfl⟩
  rw [show cnt s 1 MShape.c0 = cn from hcn] at HC
  rw [hcn]
  clear hcn
  obtain ⟨kd, a, n, m, a', n', m', rfl⟩ := hs.forms
  dsimp only
  clear hs
  have S := ((Blk.new w #[.int .i64 kd, .slice a n m, .slice a' n' m'] 25).alloc (.cells #[.int .i64 0, .int .i64 0, .int .i64 0] 79)).alloc (.cells #[.int .i64 0, .int .i64 (-1), .int .i64 0] 79)
  have R := (Blk.new_at (W := w.alloc (.cells #[.int .i64 kd, .slice a n m, .slice a' n' m'] 25)) (g := w.heap.size + 1) (by simp) #[.int .i64 0, .int .i64 0, .int .i64 0] 79).alloc (.cells #[.int .i64 0, .int .i64 (-1), .int .i64 0] 79)
  have C := Blk.new_at (W := (w.alloc (.cells #[.int .i64 kd, .slice a n m, .slice a' n' m'] 25)).alloc (.cells #[.int .i64 0, .int .i64 0, .int .i64 0] 79)) (g := w.heap.size + 1 + 1) (by simp) #[.int .i64 0, .int .i64 (-1), .int .i64 0] 79
  have HB : Hid (Below w.heap.size w (((w.alloc (.cells #[.int .i64 kd, .slice a n m, .slice a' n' m'] 25)).alloc (.cells #[.int .i64 0, .int .i64 0, .int .i64 0] 79)).alloc (.cells #[.int .i64 0, .int .i64 (-1), .int .i64 0] 79))) := Lib.hid (by repeat (first | exact Below.refl _ _ | refine Below.alloc ?_ (by simp <;> omega) _))
  go_enter Tryd.func53, Tryd.ntmps53
  go_upto_region 2 with (fail)
  obtain ⟨W, hW⟩ : ∃ W, (((w.alloc (.cells #[.int .i64 kd, .slice a n m, .slice a' n' m'] 25)).alloc (.cells #[.int .i64 0, .int .i64 0, .int .i64 0] 79)).alloc (.cells #[.int .i64 0, .int .i64 (-1), .int .i64 0] 79)) = W := ⟨_, rfl⟩
  rw [hW] at S R C HB ⊢
  clear hW
  obtain ⟨s0, s1, s2⟩ := Blk.cells3 S
  have HCALL := Lib.hid (HC.out (.int .i64 kd, .slice a n m, .slice a' n' m') W (w.heap.size + 1 + 1) B (by omega) (HS.out.keep (KeepB.bel HB.out)) C)
  clear HC
  go_upto_region 3 with (go_at_call 80; refine (HCALL.out).mono ?_; rintro e w1 ⟨rfl, hc1, hg1, hok1⟩; have C1 := Lib.hid hc1; have R1 := Blk.grow1 R hg1 (by omega); have HB1 := Lib.hid (Below.grown HB.out hg1 HB.out.size (fun j e => by cases e; omega)); have HOK := Lib.hid hok1; clear hc1 hg1 hok1)
  obtain ⟨P, Q, E⟩ := cn
  have C2 : Blk w1 (w.heap.size + 1 + 1) #[.int .i64 P, .int .i64 Q, .int .i64 E] 79 := C1.out
  obtain ⟨c0, c1, c2⟩ := Blk.cells3 C2
  obtain ⟨r0, r1, r2⟩ := Blk.cells3 R1
  have f0 := R1.froz 0; have f1 := R1.froz 1; have f2 := R1.froz 2
  have R2 := Blk.set3 R1 (x' := .int .i64 P) (y' := .int .i64 Q) (z' := .int .i64 E)
  go_wp2
  refine bodyPost_ret (v := .agg #[.int .i64 P, .int .i64 Q, .int .i64 E]) ?_ rfl ⟨rfl, below_set3 HB1.out (by omega) _ _ _, HOK.out⟩
  obtain ⟨q0, q1, q2⟩ := Blk.cells3 R2
  simp [results, Tryd.results53, go_sem, q0, q1, q2]
end Go.Proofs.YtfknhpgelleenaaDoor.K
end
