/- Boxes: what they hold, and what is alike. -/
import Derived.Test.YtfknhpgelleenaaDoorKB
import Derived.Handy
import Derived.Test.YtfknhpgelleenaaDoorKX1
namespace Go.Proofs.YtfknhpgelleenaaDoor.K
open Go Go.RowKit Go.Proofs.YtfknhpgelleenaaDoorW.PrintWords Go.Proofs.YtfknhpgelleenaaDoorW.PrintLast Go.Proofs.YtfknhpgelleenaaDoorW.PrintMore
set_option linter.unusedVariables false
set_option linter.unusedSimpArgs false
open Go.Proofs.YtfknhpgelleenaaDoor.MWide (W64 U192 addV subV addOk subOk cmpV)
open Go.Proofs.YtfknhpgelleenaaDoor.MBox (Bx)
theorem has_is (b : Bx) (r : Bool) (w : World) (h : MBox.has b = r) : Calls Tryd.prog 110 #[.agg #[.bool b.no, .int .i64 b.lx, .int .i64 b.ly, .int .i64 b.hx, .int .i64 b.hy]] w fun e w' => e = .returned (.bool r) ∧ Bel w w' := h ▸ has_calls b w
theorem refHas_is (b : Bx) (r : Bool) (w : World) (h : MBox.has b = r) : Calls Tryd.prog 106 #[.agg #[.bool b.no, .int .i64 b.lx, .int .i64 b.ly, .int .i64 b.hx, .int .i64 b.hy]] w fun e w' => e = .returned (.bool r) ∧ Bel w w' := h ▸ refHas_calls b w
attribute [local go_sem] undef
theorem Blk.cells4 {W : World} {g t : Nat} {x y z p : Value} (h : Blk W g #[x, y, z, p] t) : W.cell? ⟨g, 0, none⟩ = some x ∧ W.cell? ⟨g, 1, none⟩ = some y ∧ W.cell? ⟨g, 2, none⟩ = some z ∧ W.cell? ⟨g, 3, none⟩ = some p :=
  ⟨h.cell 0 rfl, h.cell 1 rfl, h.cell 2 rfl, h.cell 3 rfl⟩
theorem Blk.set4 {W : World} {g t : Nat} {x y z p x' y' z' p' : Value} (h : Blk W g #[x, y, z, p] t) : Blk ((((W.setCell ⟨g, 0, none⟩ x').setCell ⟨g, 1, none⟩ y').setCell ⟨g, 2, none⟩ z').setCell ⟨g, 3, none⟩ p') g #[x', y', z', p'] t := by
  have := (((h.set 0 x').set 1 y').set 2 z').set 3 p'
  exact this
theorem below_set4 {B : Nat} {a w : World} (h : Below B a w) {g : Nat} (hg : B ≤ g) (x y z p : Value) : Below B a ((((w.setCell ⟨g, 0, none⟩ x).setCell ⟨g, 1, none⟩ y).setCell ⟨g, 2, none⟩ z).setCell ⟨g, 3, none⟩ p) :=
  below_set (below_set (below_set (below_set h hg x) hg y) hg z) hg p
end Go.Proofs.YtfknhpgelleenaaDoor.K
