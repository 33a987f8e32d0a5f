/- What a claim leans on, part 34, cut by a program out of the texts WForms2. -/
import Derived.Handy
import Derived.Test.YtfknhpgelleenaaDoorRows
import Derived.ChangeSame
import Derived.Test.YtfknhpgelleenaaDoorZB4
import Derived.Test.YtfknhpgelleenaaDoorZB19
import Derived.Test.YtfknhpgelleenaaDoorZB33
section
namespace Go.Proofs.YtfknhpgelleenaaDoor.K
open Go Go.RowKit Go.Proofs.YtfknhpgelleenaaDoorW.PrintWords Go.Proofs.YtfknhpgelleenaaDoorW.PrintLast Go.Proofs.YtfknhpgelleenaaDoorW.PrintMore
set_option linter.unusedVariables false
set_option linter.unusedSimpArgs false
open Go.ChangeShapes
set_option maxRecDepth 100000 in
theorem now_of_head {W : World} {r : List (String × DataW Unit)} {ps : List MemPlace} (h : DataW.LaidVars Tryd.prog W (("hachure/wkb.nowhere", Rows.laid_hachure_wkb_nowhere) :: r) ps) : NowAt W ∧ 2 ≤ W.heap.size := by
  obtain ⟨g, t, cs, fuel, p, q, hg, ht, hvar, hd, _, _⟩ := h
  obtain rfl := Option.some.inj ((show Tryd.prog.globalNamed "hachure/wkb.nowhere" = some 1 by kernel_rfl).symm.trans hg)
  obtain rfl := Option.some.inj ((show (Tryd.prog.globals[1]?).map (·.type) = some 41 by kernel_rfl).symm.trans ht)
  have hcell := fun i => World.var?_cell hg hvar i
  have hsz : 2 ≤ W.heap.size := by
    unfold World.var? at hvar
    rw [hg] at hvar
    rcases Nat.lt_or_ge 1 W.heap.size with h | h
    · omega
    · have : W.heap[1]? = none := Array.getElem?_eq_none h
      simp [this] at hvar
  clear hvar ht hg
  have hc : Tryd.prog.cellsOf 41 = 2 := by kernel_rfl
  have hc1 : Tryd.prog.cellsOf 3 = 1 := by kernel_rfl
  obtain ⟨xs, m, _, hx, hl, hlen, hf⟩ := DataW.trod_struct Tryd.underlying41 hd
  rw [hc] at hl
  obtain ⟨l⟩ := cs
  dsimp only at hl hf
  match l, hl with
  | [v0, v1], _ =>
    have f0 := hf 0 _ rfl
    have f1 := hf 1 _ rfl
    have f0 : DataW.trod _ Tryd.prog W 0 _ _ m 3 (([v0, v1].drop 0).take (Tryd.prog.cellsOf 3)) = xs[0]? := f0
    have f1 : DataW.trod _ Tryd.prog W 0 _ _ m 3 (([v0, v1].drop 1).take (Tryd.prog.cellsOf 3)) = xs[1]? := f1
    rw [hc1] at f0 f1
    have hx2 : xs.length = 2 := hlen
    match xs, hx2 with
    | [x0, x1], _ =>
      obtain ⟨n0, e0, h0⟩ := int_of_trod9 Tryd.underlying3 f0
      obtain ⟨n1, e1, h1⟩ := int_of_trod9 Tryd.underlying3 f1
      subst e0 e1 h0 h1
      simp [Rows.laid_hachure_wkb_nowhere] at hx
      obtain ⟨⟨rfl, rfl⟩, -⟩ := hx
      exact ⟨⟨(hcell 0).trans rfl, (hcell 1).trans rfl⟩, hsz⟩
theorem now_of_vars {W : World} {a : String × DataW Unit} {r : List (String × DataW Unit)} {ps : List MemPlace} (h : DataW.LaidVars Tryd.prog W (a :: ("hachure/wkb.nowhere", Rows.laid_hachure_wkb_nowhere) :: r) ps) : NowAt W ∧ 2 ≤ W.heap.size := by
  obtain ⟨g, t, cs, fuel, p, q, hg, ht, hvar, hd, hr, _⟩ := h
  exact now_of_head hr
end Go.Proofs.YtfknhpgelleenaaDoor.K
end
