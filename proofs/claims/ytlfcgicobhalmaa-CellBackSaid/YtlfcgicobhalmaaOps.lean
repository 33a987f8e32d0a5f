/- One operation by its own law, anywhere in a walk. -/
import Derived.Test.YtlfcgicobhalmaaBase
namespace Go.Proofs.Ytlfcgicobhalmaa.K
open Go Go.RowKit
set_option linter.unusedVariables false
theorem opV {P : Program} {w w' : World} {ops : Array Oper} {rest : List Oper} {o : Oper} {a : Act} {Q : Exit → Act → World → Prop} {v : Value} (hg : o.guard = none)
    (hrun : (execOp a.eval o).run P w = .ok (.value v) w') (h : wpList P ops Q rest (a.put o.dst v) w') : wpList P ops Q (o :: rest) a w := by
  refine wpList_plain hg fun K hK' => ?_
  unfold Oper.wp
  rw [hrun]
  exact hK' _ _ h
/-- The same, of an operation that only reads. -/
theorem opR {P : Program} {w : World} {ops : Array Oper} {rest : List Oper} {o : Oper} {a : Act} {Q : Exit → Act → World → Prop} (v : Value) (hg : o.guard = none)
    (hrun : (execOp a.eval o).run P w = .ok (.value v) w) (h : wpList P ops Q rest (a.put o.dst v) w) : wpList P ops Q (o :: rest) a w := opV hg hrun h
/-- The same, where an element is read out of an array's value. -/
theorem opIdx {P : Program} {w : World} {ops : Array Oper} {rest : List Oper} {o : Oper} {a : Act} {Q : Exit → Act → World → Prop} (v : Value) (ty : TypeId) (x y : Operand) (hg : o.guard = none) (ho : o.op = .index ty x y)
    (hrun : (execOp a.eval o).run P w = .ok (.value v) w) (h : wpList P ops Q rest (a.put o.dst v) w) : wpList P ops Q (o :: rest) a w := opV hg hrun h
/-- A law of a walk, used at one operation of a region that draws its order. -/
theorem wp_of_list {P : Program} {ops : Array Oper} {o : Oper} {a : Act} {W : World} {K : Act → World → Prop} {Q : Exit → Act → World → Prop} (hg : o.guard = none)
    (h : wpList P ops (fun ex a w => ex = .normal ∧ K a w) [o] a W) : o.wp P a W K Q := by
  simp only [wpList, Region.wanted, hg, if_true] at h
  rcases h with h | ⟨_, a', w', h, _⟩
  · unfold Oper.wp at *
    generalize (execOp a.eval o).run P W = r at *
    cases r with
    | ok n w' =>
      cases n <;> simp only [Oper.upon] at h ⊢ <;>
        first
          | exact h.2
          | exact Calls.mono h (fun e w'' he => by
              cases e
              · exact he.2
              · exact absurd he.1 (by simp)
              · obtain ⟨_, _, he, _⟩ := he; cases he)
          | exact Rows.mono h (fun _ _ he => he.2)
    | halt x w' =>
      cases x <;> simp only [Oper.upon] at h ⊢ <;> first | exact h | exact absurd h.1 (by simp)
  · cases h
end Go.Proofs.Ytlfcgicobhalmaa.K
