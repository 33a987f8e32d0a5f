/- What a claim leans on, part 45, cut by a program out of the texts WSame. -/
import Derived.Handy
import Derived.Test.YtfknhpgelleenaaDoorZB3
import Derived.Test.YtfknhpgelleenaaDoorZB4
import Derived.Test.YtfknhpgelleenaaDoorZB12
import Derived.Test.YtfknhpgelleenaaDoorZB17
section
namespace Go.Proofs.YtfknhpgelleenaaDoor.K
open Go Go.RowKit Go.Proofs.YtfknhpgelleenaaDoorW.PrintWords Go.Proofs.YtfknhpgelleenaaDoorW.PrintLast Go.Proofs.YtfknhpgelleenaaDoorW.PrintMore
set_option linter.unusedVariables false
set_option linter.unusedSimpArgs false
open Go.Proofs.YtfknhpgelleenaaDoor.MShape (Sh eqPts)
set_option maxRecDepth 100000 in
theorem nePt (x y x' y' : Int) (w : World) : (binOp .neq 41 (.agg #[.int .i64 x, .int .i64 y]) (.agg #[.int .i64 x', .int .i64 y'])).run Tryd.prog w = .ok (.bool (!(x == x' && y == y'))) w := by
  unfold binOp
  simp only [Sem.run_bind, Op.equal, Op.maxDepth, eqPt_in 9998 x y x' y', Result.andThen_ok, Sem.run_pure]
end Go.Proofs.YtfknhpgelleenaaDoor.K
end
