/- ShapeCopies, as the row asks. -/
import Derived.Test.YtfknhpgelleenaaDoorKB
import Derived.Handy
import Derived.Test.YtfknhpgelleenaaDoorWLaw13f
namespace Go.Proofs.YtfknhpgelleenaaDoor.K
open Go Go.RowKit Go.Proofs.YtfknhpgelleenaaDoorW.PrintWords Go.Proofs.YtfknhpgelleenaaDoorW.PrintLast Go.Proofs.YtfknhpgelleenaaDoorW.PrintMore
set_option linter.unusedVariables false
set_option linter.unusedSimpArgs false
theorem ShapeCopies_calls {w : World} (cs : Array Value) (s : MShape.Sh) (hK : KSh.K w s cs.toList) (hq : shOk s) (cs' : Array Value) (x : Int × Int) (hK' : (Kd.pair (Kd.int .i64) (Kd.int .i64)).K w x cs'.toList) (hq' : (Lit.int .i64 x.1).wf = true ∧ (Lit.int .i64 x.2).wf = true) (hw1 : 1 ≤ w.heap.size) (hF : FormsAt w) :
    Calls Tryd.prog 6 #[.agg cs, .agg cs'] w fun e w' => e = .returned (.bool true) ∧ Below w.heap.size w w' := by
  obtain ⟨d, c, hc, hs⟩ := hK
  obtain ⟨c0, c1, e, h0, h1⟩ := hK'
  obtain rfl : c0 = [.int .i64 x.1] := h0
  obtain rfl : c1 = [.int .i64 x.2] := h1
  obtain ⟨l⟩ := cs
  obtain ⟨l'⟩ := cs'
  simp at hc e
  subst hc e
  exact copies_calls d s c x.1 x.2 w hw1 hs hF

end Go.Proofs.YtfknhpgelleenaaDoor.K
