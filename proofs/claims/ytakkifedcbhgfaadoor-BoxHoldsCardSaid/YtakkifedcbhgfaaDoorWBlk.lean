/- Blocks of a few cells, and what is left of them. -/
import Derived.Test.YtakkifedcbhgfaaDoorBase
import Derived.Handy
namespace Go.Proofs.YtakkifedcbhgfaaDoor.K
open Go Go.RowKit Go.Proofs.YtakkifedcbhgfaaDoorW.PrintWords Go.Proofs.YtakkifedcbhgfaaDoorW.PrintLast Go.Proofs.YtakkifedcbhgfaaDoorW.PrintMore
set_option linter.unusedVariables false
set_option linter.unusedSimpArgs false
/-! blocks of a few cells, and what is left of them -/
/-- A block that holds just these cells. -/
def Blk (W : World) (g : Nat) (cs : Array Value) (t : Nat) : Prop := W.heap[g]? = some (.cells cs t (0, 0))
theorem Blk.new (W : World) (cs : Array Value) (t : Nat) : Blk (W.alloc (.cells cs t)) W.heap.size cs t := heap_alloc_new W _
theorem Blk.new_at {W : World} {g : Nat} (hg : g = W.heap.size) (cs : Array Value) (t : Nat) : Blk (W.alloc (.cells cs t)) g cs t := by subst hg; exact Blk.new W cs t
theorem Blk.lt {W : World} {g t : Nat} {cs : Array Value} (h : Blk W g cs t) : g < W.heap.size := blk_lt h
theorem Blk.bel {W W' : World} {g t : Nat} {cs : Array Value} (h : Blk W g cs t) (hb : Bel W W') : Blk W' g cs t := (hb.block _ (blk_lt h)).trans h
theorem Blk.drew {W : World} {g t : Nat} {cs : Array Value} (h : Blk W g cs t) : Blk W.drew g cs t := h

theorem Blk.alloc {W : World} {g t : Nat} {cs : Array Value} (h : Blk W g cs t) (o : Obj) : Blk (W.alloc o) g cs t := h.bel ((Bel.refl W).alloc (Nat.le_refl _) _)
theorem Blk.cell {W : World} {g t : Nat} {cs : Array Value} (h : Blk W g cs t) (i : Nat) {u : Value} (hi : cs[i]? = some u) : W.cell? ⟨g, i, none⟩ = some u := (cell_of_row W g i cs t (0, 0) h).trans hi
theorem Blk.froz {W : World} {g t : Nat} {cs : Array Value} (h : Blk W g cs t) (i : Nat) : W.frozen? ⟨g, i, none⟩ = false := frozen_of_row W g i cs t h
theorem Blk.set {W : World} {g t : Nat} {cs : Array Value} (h : Blk W g cs t) (i : Nat) (u : Value) : Blk (W.setCell ⟨g, i, none⟩ u) g (cs.setIfInBounds i u) t := heap_set W g i t cs u h
theorem Blk.set_ne {W : World} {g j t i : Nat} {cs : Array Value} (h : Blk W g cs t) (hj : g ≠ j) (u : Value) : Blk (W.setCell ⟨j, i, none⟩ u) g cs t := (Below.heap_setCell W ⟨j, i, none⟩ u g hj).trans h
theorem Blk.cells3 {W : World} {g t : Nat} {x y z : Value} (h : Blk W g #[x, y, z] t) : W.cell? ⟨g, 0, none⟩ = some x ∧ W.cell? ⟨g, 1, none⟩ = some y ∧ W.cell? ⟨g, 2, none⟩ = some z := ⟨h.cell 0 rfl, h.cell 1 rfl, h.cell 2 rfl⟩
theorem Blk.set3 {W : World} {g t : Nat} {x y z x' y' z' : Value} (h : Blk W g #[x, y, z] t) : Blk (((W.setCell ⟨g, 0, none⟩ x').setCell ⟨g, 1, none⟩ y').setCell ⟨g, 2, none⟩ z') g #[x', y', z'] t := by
  have := ((h.set 0 x').set 1 y').set 2 z'
  exact this
theorem Blk.set3_ne {W : World} {g j t : Nat} {cs : Array Value} {x' y' z' : Value} (h : Blk W g cs t) (hj : g ≠ j) : Blk (((W.setCell ⟨j, 0, none⟩ x').setCell ⟨j, 1, none⟩ y').setCell ⟨j, 2, none⟩ z') g cs t :=
  ((h.set_ne hj _).set_ne hj _).set_ne hj _
theorem below_set {B : Nat} {a w : World} (h : Below B a w) {g i : Nat} (hg : B ≤ g) (u : Value) : Below B a (w.setCell ⟨g, i, none⟩ u) := h.setCell (p := ⟨g, i, none⟩) hg u
theorem below_set3 {B : Nat} {a w : World} (h : Below B a w) {g : Nat} (hg : B ≤ g) (x y z : Value) : Below B a (((w.setCell ⟨g, 0, none⟩ x).setCell ⟨g, 1, none⟩ y).setCell ⟨g, 2, none⟩ z) :=
  below_set (below_set (below_set h hg x) hg y) hg z
/-! cells that stay, where a world goes on -/
theorem kc {w w' : World} {g i : Nat} {u : Value} (hb : Bel w w') (h : w.cell? ⟨g, i, none⟩ = some u) : w'.cell? ⟨g, i, none⟩ = some u := (hb.cell (p := ⟨g, i, none⟩) (World.block_lt_of_cell? _ _ h)).trans h
theorem kc3 {wr w w' : World} {g : Nat} {a b c : Value} (hb : Bel w w') (hh : w.cell? ⟨g, 0, none⟩ = some a ∧ w.cell? ⟨g, 1, none⟩ = some b ∧ w.cell? ⟨g, 2, none⟩ = some c ∧ Bel wr w) :
    w'.cell? ⟨g, 0, none⟩ = some a ∧ w'.cell? ⟨g, 1, none⟩ = some b ∧ w'.cell? ⟨g, 2, none⟩ = some c ∧ Bel wr w' := by
  obtain ⟨h1, h2, h3, h7⟩ := hh
  exact ⟨kc hb h1, kc hb h2, kc hb h3, bthen h7 hb⟩
theorem kc6 {wr w w' : World} {g h : Nat} {a b c x y z : Value} (hb : Bel w w') (hh : w.cell? ⟨g, 0, none⟩ = some a ∧ w.cell? ⟨g, 1, none⟩ = some b ∧ w.cell? ⟨g, 2, none⟩ = some c ∧ w.cell? ⟨h, 0, none⟩ = some x ∧ w.cell? ⟨h, 1, none⟩ = some y ∧ w.cell? ⟨h, 2, none⟩ = some z ∧ Bel wr w) :
    w'.cell? ⟨g, 0, none⟩ = some a ∧ w'.cell? ⟨g, 1, none⟩ = some b ∧ w'.cell? ⟨g, 2, none⟩ = some c ∧ w'.cell? ⟨h, 0, none⟩ = some x ∧ w'.cell? ⟨h, 1, none⟩ = some y ∧ w'.cell? ⟨h, 2, none⟩ = some z ∧ Bel wr w' := by
  obtain ⟨h1, h2, h3, h4, h5, h6, h7⟩ := hh
  exact ⟨kc hb h1, kc hb h2, kc hb h3, kc hb h4, kc hb h5, kc hb h6, bthen h7 hb⟩

end Go.Proofs.YtakkifedcbhgfaaDoor.K
