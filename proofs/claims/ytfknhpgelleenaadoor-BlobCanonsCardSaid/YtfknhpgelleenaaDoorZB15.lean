/- What a claim leans on, part 15, cut by a program out of the texts WEachR WCnt. -/
import Derived.Handy
import Derived.IntWalk
import Derived.Test.YtfknhpgelleenaaDoorZB3
import Derived.Test.YtfknhpgelleenaaDoorZB4
import Derived.Test.YtfknhpgelleenaaDoorZB9
import Derived.Test.YtfknhpgelleenaaDoorZB12
import Derived.Test.YtfknhpgelleenaaDoorZB14
section
namespace Go.Proofs.YtfknhpgelleenaaDoor.K
open Go Go.RowKit Go.Proofs.YtfknhpgelleenaaDoorW.PrintWords Go.Proofs.YtfknhpgelleenaaDoorW.PrintLast Go.Proofs.YtfknhpgelleenaaDoorW.PrintMore
set_option linter.unusedVariables false
set_option linter.unusedSimpArgs false
open Go.Shelf
open Go.Proofs.YtfknhpgelleenaaDoor.MShape (Sh flats)
/-- The block of the row that lies in block g. -/
def rowB (g : Nat) (W : World) : Option Nat := (W.cell? ⟨g, 0, none⟩).bind Value.ownBlock
/-- Every block of cells lies as it lay, but g and that of its row, which may move to a new one. -/
def Kr (g : Nat) (W W' : World) : Prop := W.heap.size ≤ W'.heap.size ∧ (g < W.heap.size → (rowB g W' = rowB g W ∨ ∃ q, rowB g W' = some q ∧ W.heap.size ≤ q ∧ q < W'.heap.size) ∧ ∀ j, j ≠ g → some j ≠ rowB g W → ∀ cs t r, W.heap[j]? = some (.cells cs t r) → W'.heap[j]? = some (.cells cs t r))
def RowOk (B g : Nat) (W : World) : Prop := B ≤ g ∧ g < W.heap.size ∧ ∀ q, rowB g W = some q → B ≤ q ∧ q < W.heap.size
theorem Kr.refl (g : Nat) (W : World) : Kr g W W := ⟨Nat.le_refl _, fun _ => ⟨.inl rfl, fun _ _ _ _ _ _ h => h⟩⟩
theorem Kr.trans {g : Nat} {A B C : World} (h : Kr g A B) (h' : Kr g B C) : Kr g A C := ⟨Nat.le_trans h.1 h'.1, fun hg => by
  obtain ⟨r1, k1⟩ := h.2 hg
  obtain ⟨r2, k2⟩ := h'.2 (Nat.lt_of_lt_of_le hg h.1)
  have s1 := h.1
  have s2 := h'.1
  refine ⟨?_, fun j hj hr cs t r hc => k2 j hj (fun e => ?_) cs t r (k1 j hj hr cs t r hc)⟩
  · rcases r2 with e2 | ⟨q, e2, h1, h2⟩
    · rw [e2]
      rcases r1 with e1 | ⟨q, e1, h1, h2⟩
      · exact .inl e1
      · exact .inr ⟨q, e1, h1, by omega⟩
    · exact .inr ⟨q, e2, by omega, h2⟩
  · have hlt : j < A.heap.size := (Array.getElem?_eq_some_iff.1 hc).1
    rcases r1 with e1 | ⟨q, e1, h1, _⟩
    · exact hr (by rw [e, e1])
    · rw [e1] at e
      injection e with e
      omega⟩
theorem Kr.bel {g : Nat} {A B : World} (h : Bel A B) : Kr g A B := ⟨h.size, fun hg => ⟨.inl (by unfold rowB; rw [h.cell (p := ⟨g, 0, none⟩) hg]), fun j _ _ cs t r hc => (h.block j (Array.getElem?_eq_some_iff.1 hc).1).trans hc⟩⟩
theorem Kr.alloc {g : Nat} (W : World) (o : Obj) : Kr g W (W.alloc o) := Kr.bel ((Bel.refl W).alloc (Nat.le_refl _) o)
theorem Kr.put {g : Nat} (W : World) (l : Nat) (o o' : Obj) (hl : g ≠ l) (h : W.heap[l]? = some o) (ho : o.isCells = false) : Kr g W (W.putObj l o') :=
  ⟨by simp, fun hg => ⟨.inl (by unfold rowB World.cell?; rw [World.putObj_heap_other hl]), fun j _ _ cs t r hc => by
    by_cases e : j = l
    · subst e
      rw [h] at hc
      cases hc
      simp [Obj.isCells] at ho
    · rw [World.putObj_heap_other e]; exact hc⟩⟩
theorem Kr.cell {g : Nat} {W W' : World} (h : Kr g W W') (hg : g < W.heap.size) {j i : Nat} {v : Value} (hj : j ≠ g) (hr : some j ≠ rowB g W) (hc : W.cell? ⟨j, i, none⟩ = some v) : W'.cell? ⟨j, i, none⟩ = some v := by
  unfold World.cell? at hc ⊢
  cases ho : W.heap[j]? with
  | none => rw [ho] at hc; simp at hc
  | some o =>
    cases o with
    | cells cs t r => rw [(h.2 hg).2 j hj hr cs t r ho]; rw [ho] at hc; exact hc
    | _ => rw [ho] at hc; simp at hc
theorem RowOk.kr {B g : Nat} {W W' : World} (h : RowOk B g W) (hk : Kr g W W') : RowOk B g W' := by
  obtain ⟨h1, h2, h3⟩ := h
  obtain ⟨r, -⟩ := hk.2 h2
  have s := hk.1
  refine ⟨h1, by omega, fun q hq => ?_⟩
  rcases r with e | ⟨q', e, h4, h5⟩
  · rw [e] at hq
    obtain ⟨h6, h7⟩ := h3 q hq
    exact ⟨h6, by omega⟩
  · rw [e] at hq
    injection hq with hq
    subst hq
    exact ⟨by omega, h5⟩
theorem RowOk.keepB {B g : Nat} {W W' : World} (h : RowOk B g W) (hk : Kr g W W') : KeepB B W W' := fun j hj cs t r hc =>
  (hk.2 h.2.1).2 j (by have := h.1; omega) (fun e => by have := (h.2.2 j e.symm).1; omega) cs t r hc
/-- A block that a call lays is kept, too. -/
theorem RowOk.own {B g b : Nat} {W W1 W' : World} (h : RowOk B g W) (h1 : Kr g W W1) (hW : W1.heap.size = W.heap.size + 1) (hrow : rowB g W1 = rowB g W) (hb : b = W.heap.size) (hk : Kr g W1 W') {i : Nat} {v : Value} (hc : W1.cell? ⟨b, i, none⟩ = some v) : W'.cell? ⟨b, i, none⟩ = some v :=
  hk.cell (by have := h.2.1; omega) (by have := h.2.1; omega) (fun e => by rw [hrow] at e; have := (h.2.2 b e.symm).2; omega) hc
end Go.Proofs.YtfknhpgelleenaaDoor.K
end
section
namespace Go.Proofs.YtfknhpgelleenaaDoor.K
open Go Go.RowKit Go.Proofs.YtfknhpgelleenaaDoorW.PrintWords Go.Proofs.YtfknhpgelleenaaDoorW.PrintLast Go.Proofs.YtfknhpgelleenaaDoorW.PrintMore
set_option linter.unusedVariables false
set_option linter.unusedSimpArgs false
open Go.Proofs.YtfknhpgelleenaaDoor.MShape (Sh Cn cnt cnts own1 deeper goes full)
set_option maxHeartbeats 400000 in
theorem rleast_calls (a b : Int) (w : World) : Calls Tryd.prog 111 #[.int .i64 a, .int .i64 b] w fun e w' => e = .returned (.int .i64 (MShape.mn a b)) ∧ w = w' := by
  unfold MShape.mn
  by_cases h : a < b
  · rw [if_pos h]
    go_enter Tryd.func111, Tryd.ntmps111
    go_wp2
    go_ret
    exact ⟨rfl, rfl⟩
  · rw [if_neg h]
    go_enter Tryd.func111, Tryd.ntmps111
    go_wp2
    go_ret
    exact ⟨rfl, rfl⟩
theorem beq_false_int {a b : Int} (h : a ≠ b) : (a == b) = false := by simp [h]
set_option maxHeartbeats 1000000 in
set_option maxRecDepth 100000 in
theorem rdeeper_calls (k k' d : Int) (x1 x2 y1 y2 : Value) (w : World) (h0 : 0 ≤ d) (h1 : d ≤ 1000) (dd : Int) (hd : deeper k k' d = dd) :
    Calls Tryd.prog 112 #[.agg #[.int .i64 k, x1, x2], .agg #[.int .i64 k', y1, y2], .int .i64 d] w fun e w' => e = .returned (.int .i64 dd) ∧ Bel w w' := by
  subst hd
  unfold deeper
  have HB : Hid (Below w.heap.size w ((w.alloc (.cells #[.int .i64 k, x1, x2] 25)).alloc (.cells #[.int .i64 k', y1, y2] 25))) := Lib.hid (by repeat (first | exact Below.refl _ _ | refine Below.alloc ?_ (by simp <;> omega) _))
  have A : Blk ((w.alloc (.cells #[.int .i64 k, x1, x2] 25)).alloc (.cells #[.int .i64 k', y1, y2] 25)) w.heap.size #[.int .i64 k, x1, x2] 25 := (Blk.new w _ _).alloc _
  have B : Blk ((w.alloc (.cells #[.int .i64 k, x1, x2] 25)).alloc (.cells #[.int .i64 k', y1, y2] 25)) (w.heap.size + 1) #[.int .i64 k', y1, y2] 25 := Blk.new_at (by simp) _ _
  by_cases hk : k = 3
  · subst hk
    by_cases hk' : k' = 0
    · subst hk'
      rw [if_pos ⟨rfl, rfl⟩]
      go_enter Tryd.func112, Tryd.ntmps112
      go_upto_region 1 with (fail)
      obtain ⟨W, hW⟩ : ∃ W, ((w.alloc (.cells #[.int .i64 3, x1, x2] 25)).alloc (.cells #[.int .i64 0, y1, y2] 25)) = W := ⟨_, rfl⟩
      rw [hW] at A B HB ⊢
      clear hW
      obtain ⟨a0, a1, a2⟩ := Blk.cells3 A
      obtain ⟨b0, b1, b2⟩ := Blk.cells3 B
      go_wp2
      go_ret
      exact ⟨rfl, HB.out⟩
    · rw [if_neg (fun h => hk' h.2)]
      go_enter Tryd.func112, Tryd.ntmps112
      go_upto_region 1 with (fail)
      obtain ⟨W, hW⟩ : ∃ W, ((w.alloc (.cells #[.int .i64 3, x1, x2] 25)).alloc (.cells #[.int .i64 k', y1, y2] 25)) = W := ⟨_, rfl⟩
      rw [hW] at A B HB ⊢
      clear hW
      obtain ⟨a0, a1, a2⟩ := Blk.cells3 A
      obtain ⟨b0, b1, b2⟩ := Blk.cells3 B
      have e2 := beq_false_int hk'
      clear hk'
      go_wp2
      go_ret
      exact ⟨rfl, HB.out⟩
  · rw [if_neg (fun h => hk h.1)]
    go_enter Tryd.func112, Tryd.ntmps112
    go_upto_region 1 with (fail)
    obtain ⟨W, hW⟩ : ∃ W, ((w.alloc (.cells #[.int .i64 k, x1, x2] 25)).alloc (.cells #[.int .i64 k', y1, y2] 25)) = W := ⟨_, rfl⟩
    rw [hW] at A B HB ⊢
    clear hW
    obtain ⟨a0, a1, a2⟩ := Blk.cells3 A
    obtain ⟨b0, b1, b2⟩ := Blk.cells3 B
    have e1 := beq_false_int hk
    clear hk
    go_wp2
    go_ret
    exact ⟨rfl, HB.out⟩
theorem goes_yes {k k' d dd P R D : Int} {pts : List (Int × Int)} {ps : List Sh} (h : deeper k k' d = dd) (h1 : dd ≤ 17) (h2 : R ≤ 1000 ∨ P ≤ 4000 ∨ D ≤ 16) : goes k (.mk k' pts ps) d ⟨P, R, D⟩ = true := by
  unfold goes full
  show (decide (deeper k k' d ≤ 17) && !(decide (4000 < P) && (decide (1000 < R) && decide (16 < D)))) = true
  rw [h]
  simp only [Bool.and_eq_true, Bool.not_eq_true', Bool.and_eq_false_iff, decide_eq_true_eq, decide_eq_false_iff_not]
  omega
theorem goes_no {k k' d dd P R D : Int} {pts : List (Int × Int)} {ps : List Sh} (h : deeper k k' d = dd) (h2 : ¬ dd ≤ 17 ∨ (¬ R ≤ 1000 ∧ ¬ P ≤ 4000 ∧ ¬ D ≤ 16)) : goes k (.mk k' pts ps) d ⟨P, R, D⟩ = false := by
  unfold goes full
  show (decide (deeper k k' d ≤ 17) && !(decide (4000 < P) && (decide (1000 < R) && decide (16 < D)))) = false
  rw [h]
  simp only [Bool.and_eq_false_iff, Bool.not_eq_false', Bool.and_eq_true, decide_eq_true_eq, decide_eq_false_iff_not]
  omega
theorem goes_le {k k' d dd : Int} {c : Cn} {pts : List (Int × Int)} {ps : List Sh} (h : deeper k k' d = dd) (h2 : goes k (.mk k' pts ps) d c = true) : dd ≤ 17 := by
  unfold goes at h2
  simp only [Bool.and_eq_true, decide_eq_true_eq] at h2
  rw [← h]; exact h2.1
/-- The cells of a count. -/
def cnCells (c : Cn) : Array Value := #[.int .i64 c.points, .int .i64 c.parts, .int .i64 c.depth]
def cnOk (c : Cn) : Prop := c.in_ ∧ 0 ≤ c.depth ∧ c.depth ≤ 17
theorem Blk.grow1 {W W' : World} {g k t : Nat} {cs : Array Value} (h : Blk W g cs t) (hg : W.grownBy W' (some k)) (hne : g ≠ k) : Blk W' g cs t := (hg.block g h.lt (fun e => hne (Option.some.inj e))).trans h
theorem grown_bel {W W' : World} (h : Bel W W') (k : Nat) : W.grownBy W' (some k) := ⟨h.os, h.tape, h.output, h.size, fun i hi _ => h.block i hi⟩
theorem grown_set {W : World} (k i : Nat) (u : Value) : W.grownBy (W.setCell ⟨k, i, none⟩ u) (some k) := only_setCell (World.grownBy.refl _ _) (.inl rfl) u
theorem kS {wl w w' : World} {g h q : Nat} {a b c x y z : Value} (hb : w.grownBy w' (some q)) (hg : g ≠ q) (hh : h ≠ q) (hs : w.cell? ⟨g, 0, none⟩ = some a ∧ w.cell? ⟨g, 1, none⟩ = some b ∧ w.cell? ⟨g, 2, none⟩ = some c ∧ w.cell? ⟨h, 0, none⟩ = some x ∧ w.cell? ⟨h, 1, none⟩ = some y ∧ w.cell? ⟨h, 2, none⟩ = some z ∧ wl.grownBy w (some q)) :
    w'.cell? ⟨g, 0, none⟩ = some a ∧ w'.cell? ⟨g, 1, none⟩ = some b ∧ w'.cell? ⟨g, 2, none⟩ = some c ∧ w'.cell? ⟨h, 0, none⟩ = some x ∧ w'.cell? ⟨h, 1, none⟩ = some y ∧ w'.cell? ⟨h, 2, none⟩ = some z ∧ wl.grownBy w' (some q) := by
  have kg : ∀ (j i : Nat) (v : Value), j ≠ q → w.cell? ⟨j, i, none⟩ = some v → w'.cell? ⟨j, i, none⟩ = some v := fun j i v hj hv => (World.cell?_of_block (hb.block j (World.block_lt_of_cell? _ _ hv) (fun e => hj (Option.some.inj e)))).trans hv
  obtain ⟨h1, h2, h3, h4, h5, h6, h7⟩ := hs
  exact ⟨kg _ _ _ hg h1, kg _ _ _ hg h2, kg _ _ _ hg h3, kg _ _ _ hh h4, kg _ _ _ hh h5, kg _ _ _ hh h6, World.grownBy.trans h7 hb⟩
set_option maxHeartbeats 4000000 in
set_option maxRecDepth 100000 in
theorem rcount_calls : ∀ (D : Nat) (s : Sh) (c : Value × Value × Value) (W : World) (q B : Nat) (d : Int) (st : Cn), B ≤ q → ShB B W D c s → Blk W q (cnCells st) 101 → 0 ≤ d → d ≤ 17 → cnOk st →
    Calls Tryd.prog 90 #[.pointer (some ⟨q, 0, none⟩), .agg #[c.1, c.2.1, c.2.2], .int .i64 d] W fun e w' => e = .returned (.tuple #[]) ∧ Blk w' q (cnCells (cnt s d st)) 101 ∧ W.grownBy w' (some q) ∧ cnOk (cnt s d st) := by
  intro D
  induction D with
  | zero => intro s c W q B d st _ h; exact h.elim
  | succ D ih =>
    intro s c W q B d st hBq hs hq hd0 hd1 hok
    have IH := Lib.hid ih
    clear ih
    obtain ⟨kind, pts, ps⟩ := s
    have hs0 := Lib.hid hs
    obtain ⟨e0, ⟨a1, c1, e1, hc1, hm1, -⟩, cs, hcs, ⟨a2, c2, e2, hc2, hm2, hx2⟩, hsub⟩ := hs
    obtain ⟨v0, v1, v2⟩ := c
    simp only at e0 e1 e2
    subst e0 e1 e2
    dsimp only
    have HX := Lib.hid hx2
    have HSUB := Lib.hid hsub
    have HCS := Lib.hid hcs
    clear hx2 hsub hcs
    have hR := rleast_calls
    have HQ0 := Blk.lt hq
    unfold cnCells at hq
    obtain ⟨⟨hp0, hp1, hr0, hr1⟩, hz0, hz1⟩ := hok
    have HOK : Hid (cnOk st) := Lib.hid ⟨⟨hp0, hp1, hr0, hr1⟩, hz0, hz1⟩
    obtain ⟨P0, R0, D0⟩ := st
    dsimp only at hq hp0 hp1 hr0 hr1 hz0 hz1
    obtain ⟨fin, hfin⟩ : ∃ f, cnt (.mk kind pts ps) d ⟨P0, R0, D0⟩ = f := ⟨_, rfl⟩
    rw [hfin]
    have HFIN := Lib.hid hfin
    clear hfin
    have hqs : q ≠ W.heap.size := by omega
    have S := Blk.new W #[.int .i64 kind, .slice a1 pts.length c1, .slice a2 cs.length c2] 25
    have Q := Blk.alloc hq (.cells #[.int .i64 kind, .slice a1 pts.length c1, .slice a2 cs.length c2] 25)
    have HG := Lib.hid (grown_bel ((Bel.refl W).alloc (Nat.le_refl _) (.cells #[.int .i64 kind, .slice a1 pts.length c1, .slice a2 cs.length c2] 25)) q)
    clear hq
    go_enter Tryd.func90, Tryd.ntmps90
    go_upto_region 1 with (fail)
    obtain ⟨W1, hW⟩ : ∃ X, W.alloc (.cells #[.int .i64 kind, .slice a1 pts.length c1, .slice a2 cs.length c2] 25) = X := ⟨_, rfl⟩
    rw [hW] at S Q HG ⊢
    clear hW
    obtain ⟨g, hg⟩ : ∃ g, W.heap.size = g := ⟨_, rfl⟩
    rw [hg] at S hqs ⊢
    have hgW := Lib.hid hg
    clear hg
    obtain ⟨q0, q1, q2⟩ := Blk.cells3 Q
    have f2 := Q.froz 2
    go_upto_if 13 with (fail)
    go_cut [] (fun w' => Blk w' q #[.int .i64 P0, .int .i64 R0, .int .i64 (MShape.mx D0 d)] 101 ∧ Hid (W1.grownBy w' (some q)))
    case first =>
      by_cases hdd : D0 < d
      · have hmx := Lib.hid (show MShape.mx D0 d = d by unfold MShape.mx; rw [if_pos hdd])
        go_wp2
        go_meet
        rw [hmx.out]
        exact ⟨Q.set 2 (.int .i64 d), Lib.hid (grown_set q 2 _)⟩
      · have hmx := Lib.hid (show MShape.mx D0 d = D0 by unfold MShape.mx; rw [if_neg hdd])
        go_wp2
        go_meet
        rw [hmx.out]
        exact ⟨Q, Lib.hid (World.grownBy.refl _ _)⟩
    obtain ⟨Q2, hgr⟩ := hcut
    have S := Blk.grow1 S hgr.out (by omega)
    have HG := Lib.hid (World.grownBy.trans HG.out hgr.out)
    clear hgr q0 q1 q2 f2 Q
    obtain ⟨D1, hD1⟩ : ∃ x, MShape.mx D0 d = x := ⟨_, rfl⟩
    have hm := MShape.mx_iff D0 d
    rw [hD1] at Q2 hm
    have hD2 : 0 ≤ D1 ∧ D1 ≤ 17 ∧ d ≤ D1 := by omega
    have HD1 := Lib.hid hD1
    clear hm hD1
    obtain ⟨w2, hW⟩ : ∃ X, wc = X := ⟨_, rfl⟩
    rw [hW] at Q2 S HG ⊢
    clear hW
    obtain ⟨q0, q1, q2⟩ := Blk.cells3 Q2
    have f1 := Q2.froz 1
    go_upto_region 4 with (go_at_call 111; refine (hR _ _ _).mono ?_; rintro e w' ⟨rfl, rfl⟩)
    obtain ⟨R1, hR1⟩ : ∃ x, MShape.mn (R0 + 1) 1001 = x := ⟨_, rfl⟩
    have Q3 : Blk (w2.setCell ⟨q, 1, none⟩ (.int .i64 (MShape.mn (R0 + 1) 1001))) q #[.int .i64 P0, .int .i64 (MShape.mn (R0 + 1) 1001), .int .i64 D1] 101 := Q2.set 1 _
    have S := Blk.grow1 S (grown_set q 1 (.int .i64 (MShape.mn (R0 + 1) 1001))) (by omega)
    have HG := Lib.hid (World.grownBy.trans HG.out (grown_set q 1 (.int .i64 (MShape.mn (R0 + 1) 1001))))
    rw [hR1] at Q3 S HG ⊢
    have HR1 := Lib.hid hR1
    obtain ⟨w3, hW⟩ : ∃ X, w2.setCell ⟨q, 1, none⟩ (.int .i64 R1) = X := ⟨_, rfl⟩
    rw [hW] at Q3 S HG ⊢
    clear hW hR1 q0 q1 q2 f1 Q2
    obtain ⟨q0, q1, q2⟩ := Blk.cells3 Q3
    have f0 := Q3.froz 0
    obtain ⟨s0, s1, s2⟩ := Blk.cells3 S
    have hmn := MShape.mn_iff (pts.length : Int) 4001
    have hwr : IntKind.i64.wrap (P0 + MShape.mn (pts.length : Int) 4001) = P0 + MShape.mn (pts.length : Int) 4001 := IntWalk.i64_in _ (by omega)
    clear hmn
    go_cut [] (fun w' => w3.grownBy w' (some q) ∧ Blk w' q #[.int .i64 (MShape.mn (P0 + MShape.mn (pts.length : Int) 4001) 4001), .int .i64 R1, .int .i64 D1] 101)
    case first =>
      go_region_with (go_at_call 111; refine (hR _ _ _).mono ?_; rintro e w' ⟨rfl, rfl⟩)
      all_goals
        go_wp2_with fail
        go_meet
        exact ⟨only_drew (grown_set q 0 _), Q3.set 0 _⟩
    obtain ⟨hgr, Q4⟩ := hcut
    have S := Blk.grow1 S hgr (by omega)
    have HG := Lib.hid (World.grownBy.trans HG.out hgr)
    clear hgr q0 q1 q2 f0 s0 s1 s2 Q3 hwr
    have hown := MShape.own1_le pts.length d ⟨P0, R0, D0⟩ HOK.out.1
    have hst : own1 pts.length d ⟨P0, R0, D0⟩ = ⟨MShape.mn (P0 + MShape.mn (pts.length : Int) 4001) 4001, R1, D1⟩ := by unfold own1; simp only [HR1.out, HD1.out]
    rw [hst] at hown
    obtain ⟨P1, hP1⟩ : ∃ x, MShape.mn (P0 + MShape.mn (pts.length : Int) 4001) 4001 = x := ⟨_, rfl⟩
    rw [hP1] at hown hst Q4
    have HO1 : Hid (cnOk ⟨P1, R1, D1⟩) := Lib.hid ⟨hown.2.1, hD2.1, hD2.2.1⟩
    have HF1 : Hid (cnts kind ps d ⟨P1, R1, D1⟩ = fin) := Lib.hid (by rw [← HFIN.out, ← hst]; rfl)
    clear hown hst hP1 HFIN HOK HR1 HD1 hD2 hp0 hp1 hr0 hr1 hz0 hz1
    obtain ⟨w4, hW⟩ : ∃ X, wc = X := ⟨_, rfl⟩
    rw [hW] at Q4 S HG ⊢
    clear hW
    obtain ⟨s0, s1, s2⟩ := Blk.cells3 S
    have Q4h : Hid (Blk w4 q (cnCells ⟨P1, R1, D1⟩) 101) := Lib.hid Q4
    clear Q4
    have HCSL := HCS.out
    have hcl : ps.length = cs.length := HCS.out.symm
    have HPL := Lib.hid hcl
    clear hcl HCSL
    go_wp2_with fail
    go_loopw [43] (fun i wr => ∃ (k : Nat) (sk : Cn), i = .int .i64 k ∧ k ≤ cs.length ∧ Hid (w4.grownBy wr (some q)) ∧ Hid (Blk wr q (cnCells sk) 101) ∧ Hid (cnOk sk) ∧ Hid (cnts kind (ps.drop k) d sk = fin)) (fun i _ => cs.length - (intOf i).toNat)
    case atStart => exact ⟨0, _, rfl, by omega, Lib.hid (World.grownBy.refl _ _), Q4h, HO1, Lib.hid (by rw [List.drop_zero]; exact HF1.out)⟩
    case round =>
      obtain ⟨k, sk, rfl, hk, HGR, HQ, HOK, HF⟩ := hrel
      have HGW := Lib.hid (World.grownBy.trans HG.out HGR.out)
      have S5 := Blk.grow1 S HGR.out (by omega)
      clear s0 s1 s2
      by_cases hlt : k < cs.length
      · obtain ⟨b, off, rfl, hbB, x0, x1, x2⟩ := HX.out k hlt
        have hpk : k < ps.length := by have := HPL.out; omega
        have KB := KeepB.grown HGW.out hBq
        have x0 := KB.cell hbB x0
        have x1 := KB.cell hbB x1
        have x2 := KB.cell hbB x2
        have hsh := HSUB.out k cs[k] ps[k] (List.getElem?_eq_getElem hlt) (List.getElem?_eq_getElem hpk)
        have hdrop : ps.drop k = ps[k] :: ps.drop (k + 1) := (List.drop_eq_getElem_cons hpk)
        have HF2 := HF.out
        rw [hdrop] at HF2
        obtain ⟨xk, hxk⟩ : ∃ x, cs[k] = x := ⟨_, rfl⟩
        obtain ⟨pk, hpk2⟩ : ∃ x, ps[k] = x := ⟨_, rfl⟩
        rw [hxk] at x0 x1 x2 hsh
        rw [hpk2] at hsh HF2
        obtain ⟨xa, xb, xc⟩ := xk
        obtain ⟨kind', pts', ps'⟩ := pk
        have hsh0 := Lib.hid hsh
        cases D with
        | zero => exact hsh.elim
        | succ D =>
        obtain ⟨ek, ⟨ab, cb, eb, -⟩, csx, -, ⟨ac, cc, ec, -⟩, -⟩ := hsh
        dsimp only at ek eb ec x0 x1 x2
        subst ek eb ec
        obtain ⟨n1, hn1⟩ : ∃ n, pts'.length = n := ⟨_, rfl⟩
        obtain ⟨n2, hn2⟩ : ∃ n, csx.length = n := ⟨_, rfl⟩
        rw [hn1, hn2] at hsh0
        rw [hn1] at x1
        rw [hn2] at x2
        clear hn1 hn2
        obtain ⟨Pk, Rk, Dk⟩ := sk
        have HF3 := Lib.hid HF2
        clear hxk hpk2 hdrop HF2 HF KB hpk
        obtain ⟨dd, hdd⟩ : ∃ x, deeper kind kind' d = x := ⟨_, rfl⟩
        have hdl := MShape.deeper_le kind kind' d
        rw [hdd] at hdl
        have HDD := Lib.hid hdd
        clear hdd
        have Pb := Blk.new wr #[.int .i64 kind', .slice ab n1 cb, .slice ac n2 cc] 25
        have S5 := Blk.alloc S5 (.cells #[.int .i64 kind', .slice ab n1 cb, .slice ac n2 cc] 25)
        have Q5 : Blk (wr.alloc (.cells #[.int .i64 kind', .slice ab n1 cb, .slice ac n2 cc] 25)) q #[.int .i64 Pk, .int .i64 Rk, .int .i64 Dk] 101 := Blk.alloc HQ.out (.cells #[.int .i64 kind', .slice ab n1 cb, .slice ac n2 cc] 25)
        have HGW := Lib.hid (World.grownBy.trans HGW.out (grown_bel ((Bel.refl wr).alloc (Nat.le_refl _) (.cells #[.int .i64 kind', .slice ab n1 cb, .slice ac n2 cc] 25)) q))
        have HGR := Lib.hid (World.grownBy.trans HGR.out (grown_bel ((Bel.refl wr).alloc (Nat.le_refl _) (.cells #[.int .i64 kind', .slice ab n1 cb, .slice ac n2 cc] 25)) q))
        have hqw := HQ.out.lt
        go_upto_region 8 with (fail)
        obtain ⟨w5, hW⟩ : ∃ X, wr.alloc (.cells #[.int .i64 kind', .slice ab n1 cb, .slice ac n2 cc] 25) = X := ⟨_, rfl⟩
        rw [hW] at Pb S5 Q5 HGW HGR ⊢
        obtain ⟨gp, hg⟩ : ∃ g, wr.heap.size = g := ⟨_, rfl⟩
        rw [hg] at Pb hqw ⊢
        clear hW hg x0 x1 x2 HQ
        obtain ⟨s0, s1, s2⟩ := Blk.cells3 S5
        obtain ⟨p0, p1, p2⟩ := Blk.cells3 Pb
        go_cut [72] (fun t w' => t = .bool (goes kind (.mk kind' pts' ps') d ⟨Pk, Rk, Dk⟩) ∧ Hid (Bel w5 w'))
        case first =>
          by_cases b1 : dd ≤ 17
          · by_cases b2 : Rk ≤ 1000
            · have hval : Hid (goes kind (.mk kind' pts' ps') d ⟨Pk, Rk, Dk⟩ = true) := Lib.hid (goes_yes HDD.out b1 (.inl b2))
              go_wp2_with (go_at_call 112; refine (rdeeper_calls kind kind' d _ _ _ _ _ hd0 (by omega) dd HDD.out).mono ?_; rintro e w' ⟨rfl, hb⟩; have Q6 := Blk.bel Q5 hb; obtain ⟨q0, q1, q2⟩ := Blk.cells3 Q6; have HB6 := Lib.hid hb)
              go_meet
              exact ⟨by rw [hval.out], HB6⟩
            · by_cases b3 : Pk ≤ 4000
              · have hval : Hid (goes kind (.mk kind' pts' ps') d ⟨Pk, Rk, Dk⟩ = true) := Lib.hid (goes_yes HDD.out b1 (.inr (.inl b3)))
                go_wp2_with (go_at_call 112; refine (rdeeper_calls kind kind' d _ _ _ _ _ hd0 (by omega) dd HDD.out).mono ?_; rintro e w' ⟨rfl, hb⟩; have Q6 := Blk.bel Q5 hb; obtain ⟨q0, q1, q2⟩ := Blk.cells3 Q6; have HB6 := Lib.hid hb)
                go_meet
                exact ⟨by rw [hval.out], HB6⟩
              · by_cases b4 : Dk ≤ 16
                · have hval : Hid (goes kind (.mk kind' pts' ps') d ⟨Pk, Rk, Dk⟩ = true) := Lib.hid (goes_yes HDD.out b1 (.inr (.inr b4)))
                  go_wp2_with (go_at_call 112; refine (rdeeper_calls kind kind' d _ _ _ _ _ hd0 (by omega) dd HDD.out).mono ?_; rintro e w' ⟨rfl, hb⟩; have Q6 := Blk.bel Q5 hb; obtain ⟨q0, q1, q2⟩ := Blk.cells3 Q6; have HB6 := Lib.hid hb)
                  go_meet
                  exact ⟨by rw [hval.out], HB6⟩
                · have hval : Hid (goes kind (.mk kind' pts' ps') d ⟨Pk, Rk, Dk⟩ = false) := Lib.hid (goes_no HDD.out (.inr ⟨b2, b3, b4⟩))
                  go_wp2_with (go_at_call 112; refine (rdeeper_calls kind kind' d _ _ _ _ _ hd0 (by omega) dd HDD.out).mono ?_; rintro e w' ⟨rfl, hb⟩; have Q6 := Blk.bel Q5 hb; obtain ⟨q0, q1, q2⟩ := Blk.cells3 Q6; have HB6 := Lib.hid hb)
                  go_meet
                  exact ⟨by rw [hval.out]; simp [b2, b3, b4], HB6⟩
          · have hval : Hid (goes kind (.mk kind' pts' ps') d ⟨Pk, Rk, Dk⟩ = false) := Lib.hid (goes_no HDD.out (.inl b1))
            go_wp2_with (go_at_call 112; refine (rdeeper_calls kind kind' d _ _ _ _ _ hd0 (by omega) dd HDD.out).mono ?_; rintro e w' ⟨rfl, hb⟩; have Q6 := Blk.bel Q5 hb; obtain ⟨q0, q1, q2⟩ := Blk.cells3 Q6; have HB6 := Lib.hid hb)
            go_meet
            exact ⟨by rw [hval.out], HB6⟩
        obtain ⟨rfl, hcut⟩ := hcut
        have S6 := Blk.bel S5 hcut.out
        have P6 := Blk.bel Pb hcut.out
        have HQ6 : Hid (Blk wc q (cnCells ⟨Pk, Rk, Dk⟩) 101) := Lib.hid (Blk.bel Q5 hcut.out)
        have HGR6 := Lib.hid (World.grownBy.trans HGR.out (grown_bel hcut.out q))
        have HGW6 := Lib.hid (World.grownBy.trans HGW.out (grown_bel hcut.out q))
        clear hcut S5 Pb Q5 HGR HGW s0 s1 s2 p0 p1 p2
        have HF4 := HF3.out
        unfold cnts at HF4
        obtain ⟨w6, hW⟩ : ∃ X, wc = X := ⟨_, rfl⟩
        rw [hW] at S6 P6 HQ6 HGR6 HGW6 ⊢
        clear hW
        obtain ⟨s0, s1, s2⟩ := Blk.cells3 S6
        obtain ⟨p0, p1, p2⟩ := Blk.cells3 P6
        cases hgo : goes kind (.mk kind' pts' ps') d ⟨Pk, Rk, Dk⟩ with
        | false =>
          rw [hgo, if_neg (by simp)] at HF4
          have HF5 := Lib.hid HF4
          clear HF4 hgo
          go_wp2
          go_roundw
          case rel => exact ⟨k + 1, _, by go_num, by omega, HGR6, HQ6, HOK, HF5⟩
          case measure => (simp [intOf] <;> omega)
        | true =>
          rw [hgo, if_pos rfl] at HF4
          have hdk := goes_le HDD.out hgo
          have HF5 : Hid (cnts kind (ps.drop (k + 1)) d (cnt (.mk kind' pts' ps') dd ⟨Pk, Rk, Dk⟩) = fin) := Lib.hid (by rw [← HF4, ← HDD.out]; rfl)
          clear HF4 hgo
          have hgq : g ≠ q := by omega
          have hpq : gp ≠ q := by omega
          have hS0 := And.intro s0 (And.intro s1 (And.intro s2 (And.intro p0 (And.intro p1 (And.intro p2 (World.grownBy.refl w6 (some q)))))))
          go_wp2_with fail
          first | go_region_held3 (fun w' => w'.cell? ⟨g, 0, none⟩ = some (.int .i64 kind) ∧ w'.cell? ⟨g, 1, none⟩ = some (.slice a1 pts.length c1) ∧ w'.cell? ⟨g, 2, none⟩ = some (.slice (some ⟨b, off, none⟩) cs.length c2) ∧ w'.cell? ⟨gp, 0, none⟩ = some (.int .i64 kind') ∧ w'.cell? ⟨gp, 1, none⟩ = some (.slice ab n1 cb) ∧ w'.cell? ⟨gp, 2, none⟩ = some (.slice ac n2 cc) ∧ w6.grownBy w' (some q)) (first | with_reducible assumption | with_reducible exact kS hg9 hgq hpq (by assumption) | with_reducible exact kS (grown_bel hb q) hgq hpq (by assumption) | with_reducible exact kS (grown_bel (Bel.drew _) q) hgq hpq hS0)
            (first
            | (go_at_call 90; refine (IH.out (.mk kind' pts' ps') (.int .i64 kind', .slice ab n1 cb, .slice ac n2 cc) _ q B dd ⟨Pk, Rk, Dk⟩ hBq (hsh0.out.keep ((KeepB.grown HGW6.out hBq).trans (KeepB.bel hb8.out))) HQ8.out (by omega) hdk HOK.out).mono ?_; rintro e w' ⟨rfl, hQ9, hg9, hok9⟩; have HQ9 := Lib.hid hQ9; have HOK9 := Lib.hid hok9; clear hQ9 hok9)
            | (go_at_call 112; refine (rdeeper_calls kind kind' d _ _ _ _ _ hd0 (by omega) dd HDD.out).mono ?_; rintro e w' ⟨rfl, hb⟩; have hb8 := Lib.hid (bfrom hb); have HQ8 := Lib.hid (Blk.bel HQ6.out (bfrom hb)))) | fail
          all_goals
            rename_i hheld
            have HGR9 := Lib.hid (World.grownBy.trans HGR6.out hheld.2.2.2.2.2.2)
            clear hheld hS0
            go_wp2
            go_roundw
            case rel => exact ⟨k + 1, _, by go_num, by omega, HGR9, HQ9, HOK9, HF5⟩
            case measure => (simp [intOf] <;> omega)
      · have : k = cs.length := by omega
        subst this
        have HF6 : Hid (sk = fin) := Lib.hid (by have := HF.out; rw [← HPL.out, List.drop_length] at this; exact this)
        clear hlt hk
        go_wp2
        go_end0
        exact ⟨rfl, by rw [← HF6.out]; exact HQ.out, HGW.out, by rw [← HF6.out]; exact HOK.out⟩
end Go.Proofs.YtfknhpgelleenaaDoor.K
end
