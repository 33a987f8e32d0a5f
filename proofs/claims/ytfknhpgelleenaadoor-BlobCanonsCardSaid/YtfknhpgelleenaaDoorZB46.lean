/- What a claim leans on, part 46, cut by a program out of the texts WEqual. -/
import Derived.Handy
import Derived.Test.YtfknhpgelleenaaDoorZB3
import Derived.Test.YtfknhpgelleenaaDoorZB4
import Derived.Test.YtfknhpgelleenaaDoorZB12
import Derived.Test.YtfknhpgelleenaaDoorZB45
section
namespace Go.Proofs.YtfknhpgelleenaaDoor.K
open Go Go.RowKit Go.Proofs.YtfknhpgelleenaaDoorW.PrintWords Go.Proofs.YtfknhpgelleenaaDoorW.PrintLast Go.Proofs.YtfknhpgelleenaaDoorW.PrintMore
set_option linter.unusedVariables false
set_option linter.unusedSimpArgs false
open Go.Proofs.YtfknhpgelleenaaDoor.MShape (Sh eqPts eqS eqsS)
theorem eqS_mk (k k' : Int) (p p' : List (Int × Int)) (ps ps' : List Sh) : eqS (.mk k p ps) (.mk k' p' ps') = (k == k' && (eqPts p p' && eqsS ps ps')) := by first | rfl | (conv => lhs; unfold eqS)
theorem eqsS_cons (a b : Sh) (l m : List Sh) : eqsS (a :: l) (b :: m) = (eqS a b && eqsS l m) := by first | rfl | (conv => lhs; unfold eqsS)
theorem eqsS_nil : eqsS [] [] = true := by first | rfl | (conv => lhs; unfold eqsS)
/-- What a call of Equal tells. -/
def EqC (F : FuncId) (D : Nat) : Prop := ∀ (D' : Nat) (s s' : Sh) (c c' : Value × Value × Value) (w : World) (B : Nat), B ≤ w.heap.size → ShB B w D c s → ShB B w D' c' s' →
    Calls Tryd.prog F #[.agg #[c.1, c.2.1, c.2.2], .agg #[c'.1, c'.2.1, c'.2.2]] w fun e w' => e = .returned (.bool (eqS s s')) ∧ Bel w w'
end Go.Proofs.YtfknhpgelleenaaDoor.K
end
