/- A shape behind the bytes of wkb's writer. -/
import Derived.Test.YtfknhpgelleenaaDoorKB
import Derived.Handy
import Derived.Test.YtfknhpgelleenaaDoorWShp
import Derived.Test.YtfknhpgelleenaaDoorWWr2
namespace Go.Proofs.YtfknhpgelleenaaDoor.K
open Go Go.RowKit Go.Proofs.YtfknhpgelleenaaDoorW.PrintWords Go.Proofs.YtfknhpgelleenaaDoorW.PrintLast Go.Proofs.YtfknhpgelleenaaDoorW.PrintMore
set_option linter.unusedVariables false
set_option linter.unusedSimpArgs false
open Go.Proofs.YtfknhpgelleenaaDoor.MShape (Sh flats)
/-- The point that is nowhere, as it is laid. -/
def NowAt (W : World) : Prop := W.cell? ⟨1, 0, none⟩ = some (.int .i64 (-9223372036854775808)) ∧ W.cell? ⟨1, 1, none⟩ = some (.int .i64 (-9223372036854775808))
theorem NowAt.below {w0 W : World} {B : Nat} (hB : 2 ≤ B) (h : NowAt w0) (hb : Below B w0 W) : NowAt W := ⟨(hb.cell (p := ⟨1, 0, none⟩) (show 1 < B by omega)).trans h.1, (hb.cell (p := ⟨1, 1, none⟩) (show 1 < B by omega)).trans h.2⟩
section
variable {ops : Array Oper} {rest : List Oper} {oo : Oper} {a : Act} {Q : Exit → Act → World → Prop}
theorem appB {w0 W : World} (s x : Operand) (hgd : oo.guard = none) (ho : oo.op = .call { callee := .builtin .append, args := #[s, x], argTypes := #[49, 49] })
    (v : Value) (xs : List Int) (p : Int) (hs : a.eval s = v) (hx : a.eval x = .slice (some ⟨W.heap.size, 0, none⟩) 1 1)
    (HO : RB w0 W v xs) (HB : Below w0.heap.size w0 W) (hl : xs.length < 140737488355328)
    (h : ∀ v1 w1, Hid (RB w0 w1 v1 (xs ++ [p])) → Hid (Below w0.heap.size w0 w1) → Hid (W.grownBy w1 v.ownBlock) → Hid (v1.ownBlock = v.ownBlock ∨ ∃ b, v1.ownBlock = some b ∧ W.heap.size ≤ b) → wpList Tryd.prog ops Q rest (a.put oo.dst v1) w1) :
    wpList Tryd.prog ops Q (oo :: rest) a (W.alloc (.cells #[.int .u8 p] 5)) :=
  Kd.R_append (Kd.int .u8) (w0 := w0) w0.heap.size hgd s x 49 5 (.int .u8 0) 1 ho Tryd.underlying49 infoB rfl (by decide) (by omega) v xs p [.int .u8 p] (fun _ => True) (fun _ => False) hs hx rfl
    (fun _ hk => hk.elim) (fun _ _ => trivial) HO HB HB.size (by omega) (fun v1 w1 ho hb hg hat => h v1 w1 (Lib.hid ho) (Lib.hid hb) (Lib.hid hg) (Lib.hid hat))
end
theorem RB.sl {w0 W : World} {v : Value} {l : List Int} (h : RB w0 W v l) : ∃ A n c, v = .slice A n c := by
  obtain ⟨A, c, e, _, _⟩ := h.reads
  exact ⟨A, _, c, e⟩
theorem RB.ne_blk {w0 W : World} {v : Value} {l : List Int} (h : RB w0 W v l) {g t : Nat} {cs : Array Value} (hb : Blk W g cs t) (ht : 5 ≠ t) : some g ≠ v.ownBlock := Kd.R_ne h hb ht
theorem St.app {w0 W w1 : World} {g : Nat} {o : Bool} {v v1 : Value} {xs ys : List Int} (hg : Blk W g #[v, .bool o] 92) (hr : RB w0 W v xs) (hwg : w0.heap.size ≤ g) (hr1 : RB w0 w1 v1 ys) (hb1 : Below w0.heap.size w0 w1) (hgr : W.grownBy w1 v.ownBlock) (hat : v1.ownBlock = v.ownBlock ∨ ∃ b, v1.ownBlock = some b ∧ W.heap.size ≤ b) :
    St w0 g o ys (w1.setCell ⟨g, 0, none⟩ v1) ∧ Kr g W (w1.setCell ⟨g, 0, none⟩ v1) := by
  have hne := hr.ne_blk hg (by decide)
  have h1 : Blk w1 g #[v, .bool o] 92 := (hgr.block g (Blk.lt hg) hne).trans hg
  have h2 : Blk (w1.setCell ⟨g, 0, none⟩ v1) g #[v1, .bool o] 92 := h1.set 0 v1
  have r1 : rowB g (w1.setCell ⟨g, 0, none⟩ v1) = v1.ownBlock := by unfold rowB; rw [Blk.cell h2 0 rfl]; rfl
  have r0 : rowB g W = v.ownBlock := by unfold rowB; rw [Blk.cell hg 0 rfl]; rfl
  refine ⟨⟨v1, h2, hr1.set (hr1.ne_blk h1 (by decide)) v1, below_set hb1 hwg _, hwg⟩, by simpa using hgr.size, fun _ => ⟨?_, fun j hj hrow cs t' r hc => ?_⟩⟩
  · rw [r1, r0]
    rcases hat with e | ⟨b, e, hb⟩
    · exact .inl e
    · exact .inr ⟨b, e, hb, by simpa using (hr1.own_lt b e).2⟩
  · rw [r0] at hrow
    exact (Below.heap_setCell w1 ⟨g, 0, none⟩ v1 j hj).trans ((hgr.block j (Array.getElem?_eq_some_iff.1 hc).1 hrow).trans hc)
/-- What a call of the writer's shape tells. -/
def ShC (D : Nat) : Prop := ∀ (s : Sh) (c : Value × Value × Value) (w0 : World) (g : Nat) (o : Bool) (l : List Int) (W : World), 2 ≤ w0.heap.size → NowAt w0 → ShB w0.heap.size W D c s → St w0 g o l W → l.length + (MWkb.enc o s).length + 9 < 140737488355328 →
    Calls Tryd.prog 61 #[.pointer (some ⟨g, 0, none⟩), .agg #[c.1, c.2.1, c.2.2]] W fun e W' => e = .returned (.tuple #[]) ∧ Hid (St w0 g o (l ++ MWkb.enc o s) W' ∧ Kr g W W')
set_option maxHeartbeats 4000000 in
set_option maxRecDepth 100000 in
theorem wshape_calls : ∀ D : Nat, ShC D := by
  intro D
  induction D with
  | zero => intro s c w0 g o l W _ _ h; exact h.elim
  | succ D ih =>
    intro s c w0 g o l W hw2 hnow hs hst hlen
    have IH := Lib.hid ih
    clear ih
    obtain ⟨kind, pts, ps⟩ := s
    obtain ⟨e0, hpts, cs, hcs, ⟨a2, c2, e2, _, hm2, hx2⟩, hsub⟩ := hs
    have hpts' := hpts
    obtain ⟨a1, c1, e1, hc1, hm1, hx1⟩ := hpts
    obtain ⟨v0, v1, v2⟩ := c
    simp only at e0 e1 e2 hpts'
    subst e0 e1 e2
    dsimp only
    have HX1 := Lib.hid hx1
    have HX2 := Lib.hid hx2
    have HSUB := Lib.hid hsub
    have HCS := Lib.hid hcs
    have HPT := Lib.hid hpts'
    have HST := Lib.hid hst
    have HW2 := Lib.hid hw2
    have HNOW := Lib.hid hnow
    have henc : MWkb.enc o (.mk kind pts ps) = MWkb.mark o :: (MWkb.nm kind 4 o ++ (if kind = 1 then MWkb.pt o (pts.headD MWkb.nw) else if kind = 2 then MWkb.run o pts else MWkb.nm ps.length 4 o ++ (if kind = 3 then MWkb.ringsE o ps else MWkb.encs o ps))) := by first | rfl | (conv => lhs; unfold MWkb.enc)
    have HLEN := Lib.hid hlen
    have HENC := Lib.hid henc
    have HRW := Lib.hid hst.row
    clear hx1 hx2 hsub hcs hpts' hc1 hst hw2 hnow hlen henc
    have S := Blk.new W #[.int .i64 kind, .slice a1 pts.length c1, .slice a2 cs.length c2] 25
    have HF := Lib.hid (Fr.new HST.out (.cells #[.int .i64 kind, .slice a1 pts.length c1, .slice a2 cs.length c2] 25))
    have HB : Hid (Bel W (W.alloc (.cells #[.int .i64 kind, .slice a1 pts.length c1, .slice a2 cs.length c2] 25))) := Lib.hid ((Bel.refl W).alloc (Nat.le_refl _) _)
    go_enter Tryd.func61, Tryd.ntmps61
    go_upto_region 1 with (fail)
    obtain ⟨W1, hW⟩ : ∃ X, W.alloc (.cells #[.int .i64 kind, .slice a1 pts.length c1, .slice a2 cs.length c2] 25) = X := ⟨_, rfl⟩
    rw [hW] at S HF HB ⊢
    obtain ⟨gs, hb⟩ : ∃ X, W.heap.size = X := ⟨_, rfl⟩
    rw [hb] at S HF ⊢
    clear hW hb
    have HS1 := Lib.hid S
    have HST1 := Lib.hid (HST.out.bel HB.out)
    clear S
    have o1 := HST1.out.order
    obtain ⟨v, hG, hR, hB1, hwg⟩ := HST1.out
    have hne := hR.ne_blk hG (by decide)
    have g0 : W1.cell? ⟨g, 0, none⟩ = some v := Blk.cell hG 0 rfl
    obtain ⟨A9, c9, hv, -, -⟩ := id hR.reads
    obtain ⟨nl, hnl⟩ : ∃ n, l.length = n := ⟨_, rfl⟩
    rw [hnl] at hv
    subst hv
    have HG := Lib.hid hG
    have HR := Lib.hid hR
    have HB1 := Lib.hid hB1
    have HWG := Lib.hid hwg
    have HNE := Lib.hid hne
    have HLL : Hid (l.length < 140737488355328) := Lib.hid (by have := HLEN.out; omega)
    clear hnl hG hR hB1 hwg hne
    cases o
    all_goals
      go_upto_region 5 with (at_builtin; refine appB (w0 := w0) (.tmp 17) (.tmp 19) rfl rfl (.slice A9 nl c9) l _ rfl rfl HR.out HB1.out HLL.out ?_; intro v8 w8 HR8 HB8 HGR8 HAT8; obtain ⟨A8, n8, c8, hv8⟩ := RB.sl HR8.out; subst hv8; have b9 : Blk w8 g _ 92 := (HGR8.out.block g (Blk.lt HG.out) HNE.out).trans HG.out; have f9 := b9.froz 0; have g9 : w8.cell? ⟨g, 0, none⟩ = some (.slice A9 nl c9) := Blk.cell b9 0 rfl; clear b9)
      have HSA := Lib.hid (St.app HG.out HR.out HWG.out HR8.out HB8.out HGR8.out HAT8.out)
      obtain ⟨W4, hW⟩ : ∃ X, w8.setCell ⟨g, 0, none⟩ (.slice A8 n8 c8) = X := ⟨_, rfl⟩
      rw [hW] at HSA ⊢
      clear hW g9 f9 g0 o1
      obtain ⟨s0, s1, s2⟩ := Blk.cells3 (HF.out.blk HSA.out.2 HS1.out)
      have HN1 := Lib.hid (num_calls w0 g _ _ kind 4 W4 HSA.out.1 (.inl rfl) (by have := HLEN.out; rw [HENC.out] at this; rw [List.length_cons, List.length_append, MWkb.nm4] at this; rw [List.length_append, List.length_singleton]; omega))
      go_upto_region 6 with (go_at_call 83; refine (HN1.out).mono ?_; rintro e W5 ⟨rfl, h5⟩)
      have HS5 := Lib.hid h5.out.1
      have HK5 := Lib.hid ((HSA.out.2).trans h5.out.2)
      clear s0 s1 s2 h5 HN1 HSA HR8 HB8 HGR8 HAT8 HNE HLL
      obtain ⟨s0, s1, s2⟩ := Blk.cells3 (HF.out.blk HK5.out HS1.out)
      have HF5 := Lib.hid (HF.out.kr HK5.out)
      have HB5 := Lib.hid (HF.out.blk HK5.out HS1.out)
      have HKB := Lib.hid ((HRW.out.keepB (Kr.bel HB.out)).trans ((HST1.out.row).keepB HK5.out))
      have HKW := Lib.hid ((Kr.bel HB.out).trans HK5.out)
    · skip
      have HTOT0 : Hid (∀ body, (if kind = 1 then MWkb.pt false (pts.headD MWkb.nw) else if kind = 2 then MWkb.run false pts else MWkb.nm ps.length 4 false ++ (if kind = 3 then MWkb.ringsE false ps else MWkb.encs false ps)) = body → l ++ MWkb.enc false (.mk kind pts ps) = (l ++ [0] ++ MWkb.nm kind 4 false) ++ body) := Lib.hid (fun body hb => by rw [HENC.out, hb]; simp [MWkb.mark])
      have HL5 : Hid ((l ++ [0] ++ MWkb.nm kind 4 false).length = l.length + 5) := Lib.hid (by rw [List.length_append, List.length_append, MWkb.nm4]; rfl)
      have HLEN : Hid ((l ++ MWkb.enc false (.mk kind pts ps)).length + 9 < 140737488355328) := Lib.hid (by rw [List.length_append]; exact HLEN.out)
      obtain ⟨L5, hL5⟩ : ∃ L, l ++ [0] ++ MWkb.nm kind 4 false = L := ⟨_, rfl⟩
      rw [hL5] at HS5 HTOT0 HL5
      clear hL5
      by_cases hk1 : kind = 1
      · subst hk1
        have HTOT := Lib.hid (HTOT0.out _ (if_pos rfl))
        have HPL : Hid (L5.length + 25 < 140737488355328) := Lib.hid (by have := HLEN.out; rw [HTOT.out, List.length_append, MWkb.pt_len] at this; omega)
        have h11 : ((1 : Int) == 1) = true := rfl
        cases pts with
        | nil =>
          obtain ⟨n0, n1⟩ := HNOW.out.below (W := W5) HW2.out (by obtain ⟨_, _, _, hB, _⟩ := HS5.out; exact hB)
          have HPC := Lib.hid (point_calls w0 g false L5 (-9223372036854775808) (-9223372036854775808) W5 HS5.out HPL.out)
          go_wp2_with (go_at_call 84; refine (HPC.out).mono ?_; rintro e W7 ⟨rfl, h7⟩)
          refine bodyPost_ret (v := .tuple #[]) (by simp [results, Tryd.results61, go_sem]) rfl ⟨rfl, Lib.hid ⟨by rw [HTOT.out]; exact h7.out.1, HKW.out.trans h7.out.2⟩⟩
        | cons p pts =>
          obtain ⟨b, off, rfl, hbB, x0, x1⟩ := HX1.out 0 (by simp)
          have x0 := HKB.out.cell hbB x0
          have x1 := HKB.out.cell hbB x1
          obtain ⟨px, py⟩ := p
          have x0 : W5.cell? ⟨b, off, none⟩ = some (.int .i64 px) := x0
          have x1 : W5.cell? ⟨b, off + 1, none⟩ = some (.int .i64 py) := x1
          have HPC := Lib.hid (point_calls w0 g false L5 px py W5 HS5.out HPL.out)
          have hz : (((((px, py) :: pts).length : Nat) : Int) == 0) = false := by simp <;> omega
          have hz2 : (0 : Int) < ((((px, py) :: pts).length : Nat) : Int) := by simp <;> omega
          obtain ⟨n, hn⟩ : ∃ n, ((px, py) :: pts).length = n := ⟨_, rfl⟩
          rw [hn] at hz hz2 s1 ⊢
          clear hn
          go_wp2_with (go_at_call 84; refine (HPC.out).mono ?_; rintro e W7 ⟨rfl, h7⟩)
          go_end0
          exact ⟨by first | rfl | simp, by rw [HTOT.out]; exact h7.out.1, HKW.out.trans h7.out.2⟩
      have hk1' : (kind == 1) = false := by simpa using hk1
      by_cases hk2 : kind = 2
      · subst hk2
        have HTOT := Lib.hid (HTOT0.out _ (by rw [if_neg (by omega), if_pos rfl]))
        have HPC := Lib.hid (points_calls w0 g false L5 (.slice a1 pts.length c1) pts W5 HS5.out (HPT.out.keep HKB.out) (by have := HLEN.out; rw [HTOT.out, List.length_append] at this; omega))
        go_wp2_with (go_at_call 85; refine (HPC.out).mono ?_; rintro e W7 ⟨rfl, h7⟩)
        go_end0
        exact ⟨by first | rfl | simp, by rw [HTOT.out]; exact h7.out.1, HKW.out.trans h7.out.2⟩
      have hk2' : (kind == 2) = false := by simpa using hk2
      have hcl : Hid ((cs.length : Int) = (ps.length : Int)) := Lib.hid (by have := HCS.out; omega)
      have HN6 : Hid (Calls Tryd.prog 83 #[.pointer (some ⟨g, 0, none⟩), .int .i64 cs.length, .int .i64 4] W5 fun e W' => e = .returned (.tuple #[]) ∧ Hid (St w0 g false (L5 ++ MWkb.nm ps.length 4 false) W' ∧ Kr g W5 W')) := Lib.hid (by
        have h9 := num_calls w0 g false L5 cs.length 4 W5 HS5.out (.inl rfl) (by
          have h1 := HLEN.out
          have h2 := HTOT0.out _ rfl
          rw [if_neg hk1, if_neg hk2] at h2
          rw [h2, List.length_append, List.length_append, MWkb.nm4] at h1
          omega)
        rw [hcl.out] at h9 ⊢
        exact h9)
      by_cases hk3 : kind = 3
      · subst hk3
        have HTOT := Lib.hid (HTOT0.out _ (by rw [if_neg (by omega), if_neg (by omega), if_pos rfl]))
        go_upto_region 21 with (go_at_call 83; refine (HN6.out).mono ?_; rintro e W6 ⟨rfl, h6⟩)
        have HS6 := Lib.hid h6.out.1
        have HK6 := Lib.hid h6.out.2
        clear s0 s1 s2
        obtain ⟨s0, s1, s2⟩ := Blk.cells3 (HF5.out.blk HK6.out HB5.out)
        go_wp2
        clear s0 s1 s2 h6 HN6
        go_loopw [76] (fun i wr => ∃ (k : Nat), i = .int .i64 k ∧ k ≤ cs.length ∧ Hid (St w0 g false (L5 ++ (MWkb.nm ps.length 4 false ++ MWkb.ringsE false (ps.take k))) wr) ∧ Hid (Kr g W5 wr)) (fun i _ => cs.length - (intOf i).toNat)
        case atStart => exact ⟨0, rfl, by omega, Lib.hid (by rw [List.take_zero, show MWkb.ringsE false [] = [] by simp [MWkb.ringsE], List.append_nil]; exact HS6.out), HK6⟩
        case round =>
          obtain ⟨k, rfl, hk, HSk, HKk⟩ := hrel
          by_cases hlt : k < cs.length
          · obtain ⟨b, off, rfl, hbB, x0, x1, x2⟩ := HX2.out k hlt
            have hpk : k < ps.length := by have := HCS.out; omega
            have KB : KeepB w0.heap.size W wr := HKB.out.trans ((HS5.out.row).keepB HKk.out)
            have x0 := KB.cell hbB x0
            have x1 := KB.cell hbB x1
            have x2 := KB.cell hbB x2
            have hsh := (HSUB.out k cs[k] ps[k] (List.getElem?_eq_getElem hlt) (List.getElem?_eq_getElem hpk)).keep KB
            have htk := MWkb.ringsE_take (o := false) hpk
            have hle := MWkb.ringsE_take_le false ps (k + 1)
            obtain ⟨xk, hxk⟩ : ∃ x, cs[k] = x := ⟨_, rfl⟩
            obtain ⟨pk, hpk2⟩ : ∃ x, ps[k] = x := ⟨_, rfl⟩
            rw [hxk] at x0 x1 x2 hsh
            rw [hpk2] at hsh htk
            obtain ⟨kind', u1, u2, u3, u4, u5, u6, rfl⟩ := hsh.forms
            dsimp only at x0 x1 x2
            have HTK := Lib.hid htk
            have HLT := Lib.hid hlt
            have HLL : Hid ((L5 ++ (MWkb.nm ps.length 4 false ++ MWkb.ringsE false (ps.take k))).length + (MWkb.run false (MWkb.ptsOf pk)).length + 9 < 140737488355328) := Lib.hid (by
              rw [htk, List.length_append] at hle
              have := HLEN.out
              rw [HTOT.out, List.length_append, List.length_append] at this
              rw [List.length_append, List.length_append]
              have := HL5.out
              omega)
            have P := Blk.new wr #[.int .i64 kind', .slice u1 u2 u3, .slice u4 u5 u6] 25
            have HB9 : Hid (Bel wr (wr.alloc (.cells #[.int .i64 kind', .slice u1 u2 u3, .slice u4 u5 u6] 25))) := Lib.hid ((Bel.refl wr).alloc (Nat.le_refl _) _)
            have HSH := Lib.hid hsh
            clear hxk hpk2 hsh KB hpk htk hle
            go_upto_region 24 with (fail)
            obtain ⟨w9, hW⟩ : ∃ X, wr.alloc (.cells #[.int .i64 kind', .slice u1 u2 u3, .slice u4 u5 u6] 25) = X := ⟨_, rfl⟩
            rw [hW] at P HB9 ⊢
            obtain ⟨gp, hg⟩ : ∃ X, wr.heap.size = X := ⟨_, rfl⟩
            rw [hg] at P ⊢
            clear hW hg x0 x1 x2
            obtain ⟨p0, p1, p2⟩ := Blk.cells3 P
            clear P
            have HPC := Lib.hid (points_calls w0 g false _ (.slice u1 u2 u3) (MWkb.ptsOf pk) w9 (HSk.out.bel HB9.out) (by have h9 := HSH.out.keep (KeepB.bel HB9.out); cases D with | zero => exact h9.elim | succ D => cases pk; exact h9.2.1) HLL.out)
            go_wp2_with (go_at_call 85; refine (HPC.out).mono ?_; rintro e w7 ⟨rfl, h7⟩)
            go_roundw
            case rel => exact ⟨k + 1, by go_num, by have := HLT.out; omega, Lib.hid (by rw [HTK.out]; have h9 := h7.out.1; rw [List.append_assoc, List.append_assoc] at h9; exact h9), Lib.hid ((HKk.out.trans (Kr.bel HB9.out)).trans h7.out.2)⟩
            case measure => (have := HLT.out; simp [intOf] <;> omega)
          · have : k = cs.length := by omega
            subst this
            have htk : ps.take cs.length = ps := by rw [HCS.out, List.take_length]
            clear hlt hk
            go_wp2
            go_end0
            exact ⟨by first | rfl | simp, by rw [HTOT.out]; have h9 := HSk.out; rw [htk] at h9; exact h9, HKW.out.trans HKk.out⟩
      · have hk3' : (kind == 3) = false := by simpa using hk3
        have HTOT := Lib.hid (HTOT0.out _ (by rw [if_neg hk1, if_neg hk2, if_neg hk3]))
        clear hk1 hk2 hk3
        go_upto_region 8 with (go_at_call 83; refine (HN6.out).mono ?_; rintro e W6 ⟨rfl, h6⟩)
        have HS6 := Lib.hid h6.out.1
        have HK6 := Lib.hid h6.out.2
        clear s0 s1 s2
        obtain ⟨s0, s1, s2⟩ := Blk.cells3 (HF5.out.blk HK6.out HB5.out)
        go_wp2
        clear s0 s1 s2 h6 HN6
        go_loopw [37] (fun i wr => ∃ (k : Nat), i = .int .i64 k ∧ k ≤ cs.length ∧ Hid (St w0 g false (L5 ++ (MWkb.nm ps.length 4 false ++ MWkb.encs false (ps.take k))) wr) ∧ Hid (Kr g W5 wr)) (fun i _ => cs.length - (intOf i).toNat)
        case atStart => exact ⟨0, rfl, by omega, Lib.hid (by rw [List.take_zero, show MWkb.encs false [] = [] by simp [MWkb.encs], List.append_nil]; exact HS6.out), HK6⟩
        case round =>
          obtain ⟨k, rfl, hk, HSk, HKk⟩ := hrel
          by_cases hlt : k < cs.length
          · obtain ⟨b, off, rfl, hbB, x0, x1, x2⟩ := HX2.out k hlt
            have hpk : k < ps.length := by have := HCS.out; omega
            have KB : KeepB w0.heap.size W wr := HKB.out.trans ((HS5.out.row).keepB HKk.out)
            have x0 := KB.cell hbB x0
            have x1 := KB.cell hbB x1
            have x2 := KB.cell hbB x2
            have hsh := (HSUB.out k cs[k] ps[k] (List.getElem?_eq_getElem hlt) (List.getElem?_eq_getElem hpk)).keep KB
            have htk := MWkb.encs_take (o := false) hpk
            have hle := MWkb.encs_take_le false ps (k + 1)
            obtain ⟨xk, hxk⟩ : ∃ x, cs[k] = x := ⟨_, rfl⟩
            obtain ⟨pk, hpk2⟩ : ∃ x, ps[k] = x := ⟨_, rfl⟩
            rw [hxk] at x0 x1 x2 hsh
            rw [hpk2] at hsh htk
            obtain ⟨kind', u1, u2, u3, u4, u5, u6, rfl⟩ := hsh.forms
            dsimp only at x0 x1 x2
            have HTK := Lib.hid htk
            have HLT := Lib.hid hlt
            have HLL : Hid ((L5 ++ (MWkb.nm ps.length 4 false ++ MWkb.encs false (ps.take k))).length + (MWkb.enc false pk).length + 9 < 140737488355328) := Lib.hid (by
              rw [htk, List.length_append] at hle
              have := HLEN.out
              rw [HTOT.out, List.length_append, List.length_append] at this
              rw [List.length_append, List.length_append]
              have := HL5.out
              omega)
            have P := Blk.new wr #[.int .i64 kind', .slice u1 u2 u3, .slice u4 u5 u6] 25
            have HB9 : Hid (Bel wr (wr.alloc (.cells #[.int .i64 kind', .slice u1 u2 u3, .slice u4 u5 u6] 25))) := Lib.hid ((Bel.refl wr).alloc (Nat.le_refl _) _)
            have HSH := Lib.hid hsh
            clear hxk hpk2 hsh KB hpk htk hle
            go_upto_region 11 with (fail)
            obtain ⟨w9, hW⟩ : ∃ X, wr.alloc (.cells #[.int .i64 kind', .slice u1 u2 u3, .slice u4 u5 u6] 25) = X := ⟨_, rfl⟩
            rw [hW] at P HB9 ⊢
            obtain ⟨gp, hg⟩ : ∃ X, wr.heap.size = X := ⟨_, rfl⟩
            rw [hg] at P ⊢
            clear hW hg x0 x1 x2
            obtain ⟨p0, p1, p2⟩ := Blk.cells3 P
            clear P
            have HPC := Lib.hid (IH.out pk _ w0 g false _ w9 HW2.out HNOW.out (HSH.out.keep (KeepB.bel HB9.out)) (HSk.out.bel HB9.out) HLL.out)
            go_wp2_with (go_at_call 61; refine (HPC.out).mono ?_; rintro e w7 ⟨rfl, h7⟩)
            go_roundw
            case rel => exact ⟨k + 1, by go_num, by have := HLT.out; omega, Lib.hid (by rw [HTK.out]; have h9 := h7.out.1; rw [List.append_assoc, List.append_assoc] at h9; exact h9), Lib.hid ((HKk.out.trans (Kr.bel HB9.out)).trans h7.out.2)⟩
            case measure => (have := HLT.out; simp [intOf] <;> omega)
          · have : k = cs.length := by omega
            subst this
            have htk : ps.take cs.length = ps := by rw [HCS.out, List.take_length]
            clear hlt hk
            go_wp2
            go_end0
            exact ⟨by first | rfl | simp, by rw [HTOT.out]; have h9 := HSk.out; rw [htk] at h9; exact h9, HKW.out.trans HKk.out⟩
    · skip
      have HTOT0 : Hid (∀ body, (if kind = 1 then MWkb.pt true (pts.headD MWkb.nw) else if kind = 2 then MWkb.run true pts else MWkb.nm ps.length 4 true ++ (if kind = 3 then MWkb.ringsE true ps else MWkb.encs true ps)) = body → l ++ MWkb.enc true (.mk kind pts ps) = (l ++ [1] ++ MWkb.nm kind 4 true) ++ body) := Lib.hid (fun body hb => by rw [HENC.out, hb]; simp [MWkb.mark])
      have HL5 : Hid ((l ++ [1] ++ MWkb.nm kind 4 true).length = l.length + 5) := Lib.hid (by rw [List.length_append, List.length_append, MWkb.nm4]; rfl)
      have HLEN : Hid ((l ++ MWkb.enc true (.mk kind pts ps)).length + 9 < 140737488355328) := Lib.hid (by rw [List.length_append]; exact HLEN.out)
      obtain ⟨L5, hL5⟩ : ∃ L, l ++ [1] ++ MWkb.nm kind 4 true = L := ⟨_, rfl⟩
      rw [hL5] at HS5 HTOT0 HL5
      clear hL5
      by_cases hk1 : kind = 1
      · subst hk1
        have HTOT := Lib.hid (HTOT0.out _ (if_pos rfl))
        have HPL : Hid (L5.length + 25 < 140737488355328) := Lib.hid (by have := HLEN.out; rw [HTOT.out, List.length_append, MWkb.pt_len] at this; omega)
        have h11 : ((1 : Int) == 1) = true := rfl
        cases pts with
        | nil =>
          obtain ⟨n0, n1⟩ := HNOW.out.below (W := W5) HW2.out (by obtain ⟨_, _, _, hB, _⟩ := HS5.out; exact hB)
          have HPC := Lib.hid (point_calls w0 g true L5 (-9223372036854775808) (-9223372036854775808) W5 HS5.out HPL.out)
          go_wp2_with (go_at_call 84; refine (HPC.out).mono ?_; rintro e W7 ⟨rfl, h7⟩)
          refine bodyPost_ret (v := .tuple #[]) (by simp [results, Tryd.results61, go_sem]) rfl ⟨rfl, Lib.hid ⟨by rw [HTOT.out]; exact h7.out.1, HKW.out.trans h7.out.2⟩⟩
        | cons p pts =>
          obtain ⟨b, off, rfl, hbB, x0, x1⟩ := HX1.out 0 (by simp)
          have x0 := HKB.out.cell hbB x0
          have x1 := HKB.out.cell hbB x1
          obtain ⟨px, py⟩ := p
          have x0 : W5.cell? ⟨b, off, none⟩ = some (.int .i64 px) := x0
          have x1 : W5.cell? ⟨b, off + 1, none⟩ = some (.int .i64 py) := x1
          have HPC := Lib.hid (point_calls w0 g true L5 px py W5 HS5.out HPL.out)
          have hz : (((((px, py) :: pts).length : Nat) : Int) == 0) = false := by simp <;> omega
          have hz2 : (0 : Int) < ((((px, py) :: pts).length : Nat) : Int) := by simp <;> omega
          obtain ⟨n, hn⟩ : ∃ n, ((px, py) :: pts).length = n := ⟨_, rfl⟩
          rw [hn] at hz hz2 s1 ⊢
          clear hn
          go_wp2_with (go_at_call 84; refine (HPC.out).mono ?_; rintro e W7 ⟨rfl, h7⟩)
          go_end0
          exact ⟨by first | rfl | simp, by rw [HTOT.out]; exact h7.out.1, HKW.out.trans h7.out.2⟩
      have hk1' : (kind == 1) = false := by simpa using hk1
      by_cases hk2 : kind = 2
      · subst hk2
        have HTOT := Lib.hid (HTOT0.out _ (by rw [if_neg (by omega), if_pos rfl]))
        have HPC := Lib.hid (points_calls w0 g true L5 (.slice a1 pts.length c1) pts W5 HS5.out (HPT.out.keep HKB.out) (by have := HLEN.out; rw [HTOT.out, List.length_append] at this; omega))
        go_wp2_with (go_at_call 85; refine (HPC.out).mono ?_; rintro e W7 ⟨rfl, h7⟩)
        go_end0
        exact ⟨by first | rfl | simp, by rw [HTOT.out]; exact h7.out.1, HKW.out.trans h7.out.2⟩
      have hk2' : (kind == 2) = false := by simpa using hk2
      have hcl : Hid ((cs.length : Int) = (ps.length : Int)) := Lib.hid (by have := HCS.out; omega)
      have HN6 : Hid (Calls Tryd.prog 83 #[.pointer (some ⟨g, 0, none⟩), .int .i64 cs.length, .int .i64 4] W5 fun e W' => e = .returned (.tuple #[]) ∧ Hid (St w0 g true (L5 ++ MWkb.nm ps.length 4 true) W' ∧ Kr g W5 W')) := Lib.hid (by
        have h9 := num_calls w0 g true L5 cs.length 4 W5 HS5.out (.inl rfl) (by
          have h1 := HLEN.out
          have h2 := HTOT0.out _ rfl
          rw [if_neg hk1, if_neg hk2] at h2
          rw [h2, List.length_append, List.length_append, MWkb.nm4] at h1
          omega)
        rw [hcl.out] at h9 ⊢
        exact h9)
      by_cases hk3 : kind = 3
      · subst hk3
        have HTOT := Lib.hid (HTOT0.out _ (by rw [if_neg (by omega), if_neg (by omega), if_pos rfl]))
        go_upto_region 21 with (go_at_call 83; refine (HN6.out).mono ?_; rintro e W6 ⟨rfl, h6⟩)
        have HS6 := Lib.hid h6.out.1
        have HK6 := Lib.hid h6.out.2
        clear s0 s1 s2
        obtain ⟨s0, s1, s2⟩ := Blk.cells3 (HF5.out.blk HK6.out HB5.out)
        go_wp2
        clear s0 s1 s2 h6 HN6
        go_loopw [76] (fun i wr => ∃ (k : Nat), i = .int .i64 k ∧ k ≤ cs.length ∧ Hid (St w0 g true (L5 ++ (MWkb.nm ps.length 4 true ++ MWkb.ringsE true (ps.take k))) wr) ∧ Hid (Kr g W5 wr)) (fun i _ => cs.length - (intOf i).toNat)
        case atStart => exact ⟨0, rfl, by omega, Lib.hid (by rw [List.take_zero, show MWkb.ringsE true [] = [] by simp [MWkb.ringsE], List.append_nil]; exact HS6.out), HK6⟩
        case round =>
          obtain ⟨k, rfl, hk, HSk, HKk⟩ := hrel
          by_cases hlt : k < cs.length
          · obtain ⟨b, off, rfl, hbB, x0, x1, x2⟩ := HX2.out k hlt
            have hpk : k < ps.length := by have := HCS.out; omega
            have KB : KeepB w0.heap.size W wr := HKB.out.trans ((HS5.out.row).keepB HKk.out)
            have x0 := KB.cell hbB x0
            have x1 := KB.cell hbB x1
            have x2 := KB.cell hbB x2
            have hsh := (HSUB.out k cs[k] ps[k] (List.getElem?_eq_getElem hlt) (List.getElem?_eq_getElem hpk)).keep KB
            have htk := MWkb.ringsE_take (o := true) hpk
            have hle := MWkb.ringsE_take_le true ps (k + 1)
            obtain ⟨xk, hxk⟩ : ∃ x, cs[k] = x := ⟨_, rfl⟩
            obtain ⟨pk, hpk2⟩ : ∃ x, ps[k] = x := ⟨_, rfl⟩
            rw [hxk] at x0 x1 x2 hsh
            rw [hpk2] at hsh htk
            obtain ⟨kind', u1, u2, u3, u4, u5, u6, rfl⟩ := hsh.forms
            dsimp only at x0 x1 x2
            have HTK := Lib.hid htk
            have HLT := Lib.hid hlt
            have HLL : Hid ((L5 ++ (MWkb.nm ps.length 4 true ++ MWkb.ringsE true (ps.take k))).length + (MWkb.run true (MWkb.ptsOf pk)).length + 9 < 140737488355328) := Lib.hid (by
              rw [htk, List.length_append] at hle
              have := HLEN.out
              rw [HTOT.out, List.length_append, List.length_append] at this
              rw [List.length_append, List.length_append]
              have := HL5.out
              omega)
            have P := Blk.new wr #[.int .i64 kind', .slice u1 u2 u3, .slice u4 u5 u6] 25
            have HB9 : Hid (Bel wr (wr.alloc (.cells #[.int .i64 kind', .slice u1 u2 u3, .slice u4 u5 u6] 25))) := Lib.hid ((Bel.refl wr).alloc (Nat.le_refl _) _)
            have HSH := Lib.hid hsh
            clear hxk hpk2 hsh KB hpk htk hle
            go_upto_region 24 with (fail)
            obtain ⟨w9, hW⟩ : ∃ X, wr.alloc (.cells #[.int .i64 kind', .slice u1 u2 u3, .slice u4 u5 u6] 25) = X := ⟨_, rfl⟩
            rw [hW] at P HB9 ⊢
            obtain ⟨gp, hg⟩ : ∃ X, wr.heap.size = X := ⟨_, rfl⟩
            rw [hg] at P ⊢
            clear hW hg x0 x1 x2
            obtain ⟨p0, p1, p2⟩ := Blk.cells3 P
            clear P
            have HPC := Lib.hid (points_calls w0 g true _ (.slice u1 u2 u3) (MWkb.ptsOf pk) w9 (HSk.out.bel HB9.out) (by have h9 := HSH.out.keep (KeepB.bel HB9.out); cases D with | zero => exact h9.elim | succ D => cases pk; exact h9.2.1) HLL.out)
            go_wp2_with (go_at_call 85; refine (HPC.out).mono ?_; rintro e w7 ⟨rfl, h7⟩)
            go_roundw
            case rel => exact ⟨k + 1, by go_num, by have := HLT.out; omega, Lib.hid (by rw [HTK.out]; have h9 := h7.out.1; rw [List.append_assoc, List.append_assoc] at h9; exact h9), Lib.hid ((HKk.out.trans (Kr.bel HB9.out)).trans h7.out.2)⟩
            case measure => (have := HLT.out; simp [intOf] <;> omega)
          · have : k = cs.length := by omega
            subst this
            have htk : ps.take cs.length = ps := by rw [HCS.out, List.take_length]
            clear hlt hk
            go_wp2
            go_end0
            exact ⟨by first | rfl | simp, by rw [HTOT.out]; have h9 := HSk.out; rw [htk] at h9; exact h9, HKW.out.trans HKk.out⟩
      · have hk3' : (kind == 3) = false := by simpa using hk3
        have HTOT := Lib.hid (HTOT0.out _ (by rw [if_neg hk1, if_neg hk2, if_neg hk3]))
        clear hk1 hk2 hk3
        go_upto_region 8 with (go_at_call 83; refine (HN6.out).mono ?_; rintro e W6 ⟨rfl, h6⟩)
        have HS6 := Lib.hid h6.out.1
        have HK6 := Lib.hid h6.out.2
        clear s0 s1 s2
        obtain ⟨s0, s1, s2⟩ := Blk.cells3 (HF5.out.blk HK6.out HB5.out)
        go_wp2
        clear s0 s1 s2 h6 HN6
        go_loopw [37] (fun i wr => ∃ (k : Nat), i = .int .i64 k ∧ k ≤ cs.length ∧ Hid (St w0 g true (L5 ++ (MWkb.nm ps.length 4 true ++ MWkb.encs true (ps.take k))) wr) ∧ Hid (Kr g W5 wr)) (fun i _ => cs.length - (intOf i).toNat)
        case atStart => exact ⟨0, rfl, by omega, Lib.hid (by rw [List.take_zero, show MWkb.encs true [] = [] by simp [MWkb.encs], List.append_nil]; exact HS6.out), HK6⟩
        case round =>
          obtain ⟨k, rfl, hk, HSk, HKk⟩ := hrel
          by_cases hlt : k < cs.length
          · obtain ⟨b, off, rfl, hbB, x0, x1, x2⟩ := HX2.out k hlt
            have hpk : k < ps.length := by have := HCS.out; omega
            have KB : KeepB w0.heap.size W wr := HKB.out.trans ((HS5.out.row).keepB HKk.out)
            have x0 := KB.cell hbB x0
            have x1 := KB.cell hbB x1
            have x2 := KB.cell hbB x2
            have hsh := (HSUB.out k cs[k] ps[k] (List.getElem?_eq_getElem hlt) (List.getElem?_eq_getElem hpk)).keep KB
            have htk := MWkb.encs_take (o := true) hpk
            have hle := MWkb.encs_take_le true ps (k + 1)
            obtain ⟨xk, hxk⟩ : ∃ x, cs[k] = x := ⟨_, rfl⟩
            obtain ⟨pk, hpk2⟩ : ∃ x, ps[k] = x := ⟨_, rfl⟩
            rw [hxk] at x0 x1 x2 hsh
            rw [hpk2] at hsh htk
            obtain ⟨kind', u1, u2, u3, u4, u5, u6, rfl⟩ := hsh.forms
            dsimp only at x0 x1 x2
            have HTK := Lib.hid htk
            have HLT := Lib.hid hlt
            have HLL : Hid ((L5 ++ (MWkb.nm ps.length 4 true ++ MWkb.encs true (ps.take k))).length + (MWkb.enc true pk).length + 9 < 140737488355328) := Lib.hid (by
              rw [htk, List.length_append] at hle
              have := HLEN.out
              rw [HTOT.out, List.length_append, List.length_append] at this
              rw [List.length_append, List.length_append]
              have := HL5.out
              omega)
            have P := Blk.new wr #[.int .i64 kind', .slice u1 u2 u3, .slice u4 u5 u6] 25
            have HB9 : Hid (Bel wr (wr.alloc (.cells #[.int .i64 kind', .slice u1 u2 u3, .slice u4 u5 u6] 25))) := Lib.hid ((Bel.refl wr).alloc (Nat.le_refl _) _)
            have HSH := Lib.hid hsh
            clear hxk hpk2 hsh KB hpk htk hle
            go_upto_region 11 with (fail)
            obtain ⟨w9, hW⟩ : ∃ X, wr.alloc (.cells #[.int .i64 kind', .slice u1 u2 u3, .slice u4 u5 u6] 25) = X := ⟨_, rfl⟩
            rw [hW] at P HB9 ⊢
            obtain ⟨gp, hg⟩ : ∃ X, wr.heap.size = X := ⟨_, rfl⟩
            rw [hg] at P ⊢
            clear hW hg x0 x1 x2
            obtain ⟨p0, p1, p2⟩ := Blk.cells3 P
            clear P
            have HPC := Lib.hid (IH.out pk _ w0 g true _ w9 HW2.out HNOW.out (HSH.out.keep (KeepB.bel HB9.out)) (HSk.out.bel HB9.out) HLL.out)
            go_wp2_with (go_at_call 61; refine (HPC.out).mono ?_; rintro e w7 ⟨rfl, h7⟩)
            go_roundw
            case rel => exact ⟨k + 1, by go_num, by have := HLT.out; omega, Lib.hid (by rw [HTK.out]; have h9 := h7.out.1; rw [List.append_assoc, List.append_assoc] at h9; exact h9), Lib.hid ((HKk.out.trans (Kr.bel HB9.out)).trans h7.out.2)⟩
            case measure => (have := HLT.out; simp [intOf] <;> omega)
          · have : k = cs.length := by omega
            subst this
            have htk : ps.take cs.length = ps := by rw [HCS.out, List.take_length]
            clear hlt hk
            go_wp2
            go_end0
            exact ⟨by first | rfl | simp, by rw [HTOT.out]; have h9 := HSk.out; rw [htk] at h9; exact h9, HKW.out.trans HKk.out⟩

end Go.Proofs.YtfknhpgelleenaaDoor.K
