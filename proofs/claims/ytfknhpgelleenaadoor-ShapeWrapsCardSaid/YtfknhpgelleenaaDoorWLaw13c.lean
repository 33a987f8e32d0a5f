/- ShapeWraps, as the row asks it. -/
import Derived.Test.YtfknhpgelleenaaDoorKB
import Derived.Handy
import Derived.Test.YtfknhpgelleenaaDoorWLaw13b
namespace Go.Proofs.YtfknhpgelleenaaDoor.K
open Go Go.RowKit Go.Proofs.YtfknhpgelleenaaDoorW.PrintWords Go.Proofs.YtfknhpgelleenaaDoorW.PrintLast Go.Proofs.YtfknhpgelleenaaDoorW.PrintMore
set_option linter.unusedVariables false
set_option linter.unusedSimpArgs false
theorem ShapeWraps_calls {w : World} (cs : Array Value) (s : MShape.Sh) (hK : KSh.K w s cs.toList) (hq : shOk s) (hw1 : 1 ≤ w.heap.size) (hF : FormsAt w) :
    Calls Tryd.prog 3 #[.agg cs] w fun e w' => e = .returned (.bool true) ∧ Below w.heap.size w w' := by
  obtain ⟨d, c, hc, hs⟩ := hK
  obtain ⟨l⟩ := cs
  simp at hc
  subst hc
  exact wraps_calls d s c w hw1 hs hF

end Go.Proofs.YtfknhpgelleenaaDoor.K
