/- One operation by its own law, anywhere in a walk. -/
import Derived.Test.YtlfcgicobhalmaaBase
namespace Go.Proofs.Ytlfcgicobhalmaa.K
open Go Go.RowKit
open Lean Elab Tactic Meta in
/-- Succeeds where the next operation is of this constructor: 'at_op Go.Op.index'. -/
elab "at_op " n:ident : tactic => withMainContext do
  let t := (← instantiateMVars (← getMainTarget)).consumeMData
  unless t.isAppOfArity ``Go.wpList 6 do throwError "at_op: no wpList"
  let l := t.getArg! 3
  unless l.isAppOfArity ``List.cons 3 do throwError "at_op: no operation"
  let o := l.getArg! 1
  unless o.isAppOfArity ``Go.Oper.mk 6 do throwError "at_op: not written out"
  unless (o.getArg! 1).isAppOf n.getId do throwError "at_op: another operation"
theorem opV {P : Program} {w w' : World} {ops : Array Oper} {rest : List Oper} {o : Oper} {a : Act} {Q : Exit → Act → World → Prop} {v : Value} (hg : o.guard = none)
    (hrun : (execOp a.eval o).run P w = .ok (.value v) w') (h : wpList P ops Q rest (a.put o.dst v) w') : wpList P ops Q (o :: rest) a w := by
  refine wpList_plain hg fun K hK' => ?_
  unfold Oper.wp
  rw [hrun]
  exact hK' _ _ h
/-- The same, of an operation that only reads. -/
theorem opR {P : Program} {w : World} {ops : Array Oper} {rest : List Oper} {o : Oper} {a : Act} {Q : Exit → Act → World → Prop} (v : Value) (hg : o.guard = none)
    (hrun : (execOp a.eval o).run P w = .ok (.value v) w) (h : wpList P ops Q rest (a.put o.dst v) w) : wpList P ops Q (o :: rest) a w := opV hg hrun h
end Go.Proofs.Ytlfcgicobhalmaa.K
