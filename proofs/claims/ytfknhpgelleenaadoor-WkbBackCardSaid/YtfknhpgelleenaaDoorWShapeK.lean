/- What a loop over a function keeps: blocks, and worlds that go on. -/
import Derived.Test.YtfknhpgelleenaaDoorKB
import Derived.Handy
import Derived.Test.YtfknhpgelleenaaDoorWShape2
namespace Go.Proofs.YtfknhpgelleenaaDoor.K
open Go Go.RowKit Go.Proofs.YtfknhpgelleenaaDoorW.PrintWords Go.Proofs.YtfknhpgelleenaaDoorW.PrintLast Go.Proofs.YtfknhpgelleenaaDoorW.PrintMore
set_option linter.unusedVariables false
set_option linter.unusedSimpArgs false
open Go.Shelf
theorem blk_own {β : Type} {g t : Nat} (f : β → Array Value) : Own (fun (s : β) W => Blk W g (f s) t) := fun s X Y row hs hg hrow =>
  (hg.block g (Array.getElem?_eq_some_iff.1 (show X.heap[g]? = _ from hs)).1 (fun e' => by obtain ⟨o, ho, hc⟩ := hrow g e'.symm; rw [show X.heap[g]? = _ from hs] at ho; cases ho; cases hc)).trans hs
theorem kf_bel {B : Nat} {X Y : World} (h : Bel X Y) : KeepsFrom B X Y := KeepsFrom.of_grownBy (row := none) ⟨h.os, h.tape, h.output, h.size, fun j hj _ => h.block j hj⟩ (fun _ e => by cases e)
theorem kf_set {B : Nat} {X Y : World} (h : KeepsFrom B X Y) (p : Addr) (u : Value) : KeepsFrom B X (Y.setCell p u) := h.trans ((KeepsOthers.setCell _ _ _).from B)
theorem kx_set {X Y : World} {g : Nat} (h : Kx g X Y) (n : Nat) (u : Value) : Kx g X (Y.setCell ⟨g, n, none⟩ u) :=
  h.trans ⟨by simp, fun j hj cs t r hc => by rw [Below.heap_setCell _ _ _ _ hj]; exact hc⟩
end Go.Proofs.YtfknhpgelleenaaDoor.K
