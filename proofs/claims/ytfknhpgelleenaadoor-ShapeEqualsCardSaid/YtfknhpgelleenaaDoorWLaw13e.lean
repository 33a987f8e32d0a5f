/- ShapeEquals, as the row asks. -/
import Derived.Test.YtfknhpgelleenaaDoorKB
import Derived.Handy
import Derived.Test.YtfknhpgelleenaaDoorWLaw13d
namespace Go.Proofs.YtfknhpgelleenaaDoor.K
open Go Go.RowKit Go.Proofs.YtfknhpgelleenaaDoorW.PrintWords Go.Proofs.YtfknhpgelleenaaDoorW.PrintLast Go.Proofs.YtfknhpgelleenaaDoorW.PrintMore
set_option linter.unusedVariables false
set_option linter.unusedSimpArgs false
theorem ShapeEquals_calls {w : World} (cs : Array Value) (s : MShape.Sh) (hK : KSh.K w s cs.toList) (hq : shOk s) (cs' : Array Value) (s' : MShape.Sh) (hK' : KSh.K w s' cs'.toList) (hq' : shOk s') (most : Int) (hm : (Lit.int .u64 most).wf = true) (hw1 : 1 ≤ w.heap.size) (hF : FormsAt w) :
    Calls Tryd.prog 5 #[.agg cs, .agg cs', .int .u64 most] w fun e w' => e = .returned (.bool true) ∧ Below w.heap.size w w' := by
  obtain ⟨d, c, hc, hs⟩ := hK
  obtain ⟨d', c', hc', hs'⟩ := hK'
  obtain ⟨l⟩ := cs
  obtain ⟨l'⟩ := cs'
  simp at hc hc'
  subst hc hc'
  exact equals_calls d d' s s' c c' most w hw1 hs hs' hF (u64_wf hm).1

end Go.Proofs.YtfknhpgelleenaaDoor.K
