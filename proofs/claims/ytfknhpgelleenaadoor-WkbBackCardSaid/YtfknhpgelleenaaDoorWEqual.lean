/- shape.Equal and slices.EqualFunc over shapes. -/
import Derived.Test.YtfknhpgelleenaaDoorKB
import Derived.Handy
import Derived.Test.YtfknhpgelleenaaDoorKM
import Derived.Test.YtfknhpgelleenaaDoorWShp
import Derived.Test.YtfknhpgelleenaaDoorWSame
namespace Go.Proofs.YtfknhpgelleenaaDoor.K
open Go Go.RowKit Go.Proofs.YtfknhpgelleenaaDoorW.PrintWords Go.Proofs.YtfknhpgelleenaaDoorW.PrintLast Go.Proofs.YtfknhpgelleenaaDoorW.PrintMore
set_option linter.unusedVariables false
set_option linter.unusedSimpArgs false
open Go.Proofs.YtfknhpgelleenaaDoor.MShape (Sh eqPts eqS eqsS)
theorem eqS_mk (k k' : Int) (p p' : List (Int × Int)) (ps ps' : List Sh) : eqS (.mk k p ps) (.mk k' p' ps') = (k == k' && (eqPts p p' && eqsS ps ps')) := by first | rfl | (conv => lhs; unfold eqS)
theorem eqsS_cons (a b : Sh) (l m : List Sh) : eqsS (a :: l) (b :: m) = (eqS a b && eqsS l m) := by first | rfl | (conv => lhs; unfold eqsS)
theorem eqsS_nil : eqsS [] [] = true := by first | rfl | (conv => lhs; unfold eqsS)
/-- What a call of Equal tells. -/
def EqC (F : FuncId) (D : Nat) : Prop := ∀ (D' : Nat) (s s' : Sh) (c c' : Value × Value × Value) (w : World) (B : Nat), B ≤ w.heap.size → ShB B w D c s → ShB B w D' c' s' →
    Calls Tryd.prog F #[.agg #[c.1, c.2.1, c.2.2], .agg #[c'.1, c'.2.1, c'.2.2]] w fun e w' => e = .returned (.bool (eqS s s')) ∧ Bel w w'
set_option maxHeartbeats 2000000 in
set_option maxRecDepth 100000 in
theorem eqF_calls (D D' : Nat) (ih : EqC 30 D) (v1 v2 : Value) (cs cs' : List (Value × Value × Value)) (ps ps' : List Sh) (w : World) (B : Nat) (hB : B ≤ w.heap.size) (hc : cs.length = ps.length) (hc' : cs'.length = ps'.length) (h1 : PartsB B w v1 cs) (h2 : PartsB B w v2 cs')
    (hs1 : ∀ (i : Nat) x p, cs[i]? = some x → ps[i]? = some p → ShB B w D x p) (hs2 : ∀ (i : Nat) x p, cs'[i]? = some x → ps'[i]? = some p → ShB B w D' x p) (r : Bool) (hr : eqsS ps ps' = r) :
    Calls Tryd.prog 59 #[v1, v2, .func (.func 30) #[] #[]] w fun e w' => e = .returned (.bool r) ∧ Bel w w' := by
  obtain ⟨a1, p1, rfl, _, hm1, hx1⟩ := h1
  obtain ⟨a2, p2, rfl, _, hm2, hx2⟩ := h2
  by_cases hl : cs.length = cs'.length
  case neg =>
    have hv : ((cs.length : Int) != cs'.length) = true := by simp; omega
    have hr2 : r = false := hr.symm.trans (MShape.eqsS_len (by omega))
    subst hr2
    clear hr hx1 hx2 hm1 hm2 hl hc hc' hs1 hs2
    go_enter Tryd.func59, Tryd.ntmps59
    go_wp2
    go_ret
    exact ⟨by first | rfl | simp, Below.refl _ _⟩
  rw [← hl]
  have HL := Lib.hid hl
  have HC := Lib.hid hc
  have HC' := Lib.hid hc'
  have HX1 := Lib.hid hx1
  have HX2 := Lib.hid hx2
  have HS1 := Lib.hid hs1
  have HS2 := Lib.hid hs2
  have HR := Lib.hid hr
  have IH := Lib.hid ih
  have HBB := Lib.hid hB
  clear hl hx1 hx2 hr hm2 hc hc' hs1 hs2 ih hB
  have hv : ((cs.length : Int) != cs.length) = false := by simp
  go_enter Tryd.func59, Tryd.ntmps59
  go_wp2
  clear hv
  go_loopw [17] (fun i wr => ∃ (k : Nat), i = .int .i64 k ∧ k ≤ cs.length ∧ Hid (Below w.heap.size w wr) ∧ Hid (eqsS (ps.drop k) (ps'.drop k) = r)) (fun i _ => cs.length - (intOf i).toNat)
  case atStart => exact ⟨0, rfl, by omega, Lib.hid (Below.refl _ _), Lib.hid (by rw [List.drop_zero, List.drop_zero]; exact HR.out)⟩
  case round =>
    obtain ⟨k, rfl, hk, HBk, HRk⟩ := hrel
    by_cases hlt : k < cs.length
    · have hlt2 : k < cs'.length := by have := HL.out; omega
      have hp1 : k < ps.length := by have := HC.out; omega
      have hp2 : k < ps'.length := by have := HC'.out; omega
      obtain ⟨b, off, rfl, hb1, x0, x1, x2⟩ := HX1.out k hlt
      obtain ⟨b', off', rfl, hb2, y0, y1, y2⟩ := HX2.out k hlt2
      have hsp := HS1.out k _ _ (List.getElem?_eq_getElem hlt) (List.getElem?_eq_getElem hp1)
      have hsq := HS2.out k _ _ (List.getElem?_eq_getElem hlt2) (List.getElem?_eq_getElem hp2)
      have hrk := HRk.out
      rw [List.drop_eq_getElem_cons hp1, List.drop_eq_getElem_cons hp2, eqsS_cons] at hrk
      obtain ⟨x, hx⟩ : ∃ p, cs[k] = p := ⟨_, rfl⟩
      obtain ⟨y, hy⟩ : ∃ p, cs'[k] = p := ⟨_, rfl⟩
      obtain ⟨p, hp⟩ : ∃ p, ps[k] = p := ⟨_, rfl⟩
      obtain ⟨q, hq⟩ : ∃ p, ps'[k] = p := ⟨_, rfl⟩
      rw [hx] at x0 x1 x2 hsp
      rw [hy] at y0 y1 y2 hsq
      rw [hp] at hsp hrk
      rw [hq] at hsq hrk
      have KB : KeepB B w wr := fun j hj cs t r hc => (HBk.out.block j (by have := HBB.out; omega)).trans hc
      have x0 := KB.cell hb1 x0
      have x1 := KB.cell hb1 x1
      have x2 := KB.cell hb1 x2
      have y0 := KB.cell hb2 y0
      have y1 := KB.cell hb2 y1
      have y2 := KB.cell hb2 y2
      have hsp := hsp.keep KB
      have hsq := hsq.keep KB
      obtain ⟨kd, u1, u2, u3, u4, u5, u6, rfl⟩ := hsp.forms
      obtain ⟨kd', z1, z2, z3, z4, z5, z6, rfl⟩ := hsq.forms
      dsimp only at x0 x1 x2 y0 y1 y2
      have y0 := (Below.alloc (Below.refl _ wr) (Nat.le_refl _) (.cells #[.int .i64 kd, .slice u1 u2 u3, .slice u4 u5 u6] 25)).cell (World.block_lt_of_cell? _ _ y0) |>.trans y0
      have y1 := (Below.alloc (Below.refl _ wr) (Nat.le_refl _) (.cells #[.int .i64 kd, .slice u1 u2 u3, .slice u4 u5 u6] 25)).cell (World.block_lt_of_cell? _ _ y1) |>.trans y1
      have y2 := (Below.alloc (Below.refl _ wr) (Nat.le_refl _) (.cells #[.int .i64 kd, .slice u1 u2 u3, .slice u4 u5 u6] 25)).cell (World.block_lt_of_cell? _ _ y2) |>.trans y2
      have HRN := Lib.hid hrk
      have HSP := Lib.hid hsp
      have HSQ := Lib.hid hsq
      clear hx hy hp hq hrk hlt2 HRk hp1 hp2 hsp hsq KB
      go_upto_region 6 with (fail)
      have G := Blk.new wr #[.int .i64 kd, .slice u1 u2 u3, .slice u4 u5 u6] 25
      have HB5 : Hid (Bel wr (wr.alloc (.cells #[.int .i64 kd, .slice u1 u2 u3, .slice u4 u5 u6] 25))) := Lib.hid ((Bel.refl wr).alloc (Nat.le_refl _) _)
      obtain ⟨w5, hW⟩ : ∃ X, wr.alloc (.cells #[.int .i64 kd, .slice u1 u2 u3, .slice u4 u5 u6] 25) = X := ⟨_, rfl⟩
      rw [hW] at G HB5 y0 y1 y2 ⊢
      obtain ⟨g, hg⟩ : ∃ X, wr.heap.size = X := ⟨_, rfl⟩
      rw [hg] at G ⊢
      clear hW hg x0 x1 x2
      go_upto_region 7 with (fail)
      have G := G.alloc (.cells #[.int .i64 kd', .slice z1 z2 z3, .slice z4 z5 z6] 25)
      have H := Blk.new w5 #[.int .i64 kd', .slice z1 z2 z3, .slice z4 z5 z6] 25
      have HB6 : Hid (Bel wr (w5.alloc (.cells #[.int .i64 kd', .slice z1 z2 z3, .slice z4 z5 z6] 25))) := Lib.hid (HB5.out.alloc HB5.out.size _)
      obtain ⟨w6, hW⟩ : ∃ X, w5.alloc (.cells #[.int .i64 kd', .slice z1 z2 z3, .slice z4 z5 z6] 25) = X := ⟨_, rfl⟩
      rw [hW] at G H HB6 ⊢
      obtain ⟨h, hg⟩ : ∃ X, w5.heap.size = X := ⟨_, rfl⟩
      rw [hg] at H ⊢
      clear hW hg y0 y1 y2
      obtain ⟨g0, g1, g2⟩ := Blk.cells3 G
      obtain ⟨h0, h1, h2⟩ := Blk.cells3 H
      have HCALL := Lib.hid (IH.out D' p q _ _ w6 B (by have := HB6.out.size; have := HBk.out.size; have := HBB.out; omega) (HSP.out.keep (KeepB.bel HB6.out)) (HSQ.out.keep (KeepB.bel HB6.out)))
      cases heq : eqS p q
      all_goals
        rw [heq] at HCALL HRN
        clear heq
        go_wp2_with (go_at_call 30; refine (HCALL.out).mono ?_; rintro e w7 ⟨rfl, hb7⟩)
      · go_ret
        have hrf := HRN.out
        rw [Bool.false_and] at hrf
        exact ⟨by rw [← hrf]; rfl, bthen (bthen HBk.out HB6.out) hb7⟩
      · go_roundw
        case rel => exact ⟨k + 1, by go_num, by omega, Lib.hid (bthen (bthen HBk.out HB6.out) hb7), Lib.hid (by have := HRN.out; rwa [Bool.true_and] at this)⟩
        case measure => (simp [intOf] <;> omega)
    · have : k = cs.length := by omega
      subst this
      have hre : r = true := by have := HRk.out; rw [HC.out, List.drop_length, ← HC.out, HL.out, HC'.out, List.drop_length, eqsS_nil] at this; exact this.symm
      subst hre
      clear hlt hk HRk HR
      go_wp2
      go_ret
      exact ⟨by first | rfl | simp, HBk.out⟩
end Go.Proofs.YtfknhpgelleenaaDoor.K
