/- Small laws for walks, the second part: a block of the call's own, appends and what they leave as it was. -/
import Derived.Test.YtlfcgicobhalmaaBase
import Derived.Test.YtlfcgicobhalmaaMNode
import Derived.Test.YtlfcgicobhalmaaWZeros
namespace Go.Proofs.Ytlfcgicobhalmaa.K
open Go Go.RowKit Go.Proofs.YtlfcgicobhalmaaW.PrintWords Go.Proofs.YtlfcgicobhalmaaW.PrintLast Go.Proofs.YtlfcgicobhalmaaW.PrintMore
set_option linter.unusedVariables false
set_option linter.unusedSimpArgs false
open Go.Proofs.Ytlfcgicobhalmaa.MOct (W V tk sz vr num head getV le be many putL)
theorem wrap_u64m (n : Int) : IntKind.u64.wrap n = MOct.u64 n := by rw [IntKind.wrap_u64]; rfl
/-- A world that goes on from w0, with a block of the call's own that is as it was laid. -/
def Bx (w0 : World) (cs : Array Value) (t : Nat) (W : World) : Prop := Below w0.heap.size w0 W ∧ W.heap[w0.heap.size]? = some (.cells cs t (0, 0))
theorem Bx.new (w0 : World) (cs : Array Value) (t : Nat) : Bx w0 cs t (w0.alloc (.cells cs t)) := ⟨(Below.refl _ _).alloc (Nat.le_refl _) _, heap_alloc_new w0 _⟩
theorem Bx.drew {w0 W : World} {cs : Array Value} {t : Nat} (h : Bx w0 cs t W) : Bx w0 cs t W.drew := ⟨h.1.drew, h.2⟩
theorem Bx.below {w0 W W' : World} {cs : Array Value} {t : Nat} (h : Bx w0 cs t W) (hb : Below W.heap.size W W') : Bx w0 cs t W' := ⟨bthen h.1 hb, (hb.block _ (blk_lt h.2)).trans h.2⟩
theorem Bx.cell {w0 W : World} {cs : Array Value} {t : Nat} (h : Bx w0 cs t W) {i : Nat} {u : Value} (hi : cs[i]? = some u) : W.cell? ⟨w0.heap.size, i, none⟩ = some u := (cell_of_row W _ i _ t (0, 0) h.2).trans hi
section
variable {ops : Array Oper} {rest : List Oper} {o : Oper} {a : Act} {Q : Exit → Act → World → Prop}
/-- append(row, bytes...), and what it leaves as it was. -/
theorem appN2 {w0 W : World} (s x : Operand) (hgd : o.guard = none) (ho : o.op = .call { callee := .builtin .append, args := #[s, x], argTypes := #[23, 23] })
    (v : Value) (xs ys : List Int) (A : Option Addr) (c : Nat) (hs : a.eval s = v) (hx : a.eval x = .slice A ys.length c)
    (HO : RB w0 W v xs) (HR : CB W A ys) (HB : Below w0.heap.size w0 W) (hl : xs.length + ys.length < 140737488355328)
    (h : ∀ v1 w1, Hid (RB w0 w1 v1 (xs ++ ys)) → Hid (Below w0.heap.size w0 w1 ∧ W.grownBy w1 v.ownBlock) → wpList Try.prog ops Q rest (a.put o.dst v1) w1) :
    wpList Try.prog ops Q (o :: rest) a W :=
  Kd.R_append_rows (Kd.int .u8) (w0 := w0) w0.heap.size hgd s x 23 5 (.int .u8 0) 1 ho Try.underlying23 infoB rfl (by decide) (by omega) v xs ys A ys.length c (fun _ => True) (fun _ => False) hs hx HO HR
    (fun x cs hk => hk) (fun _ hk => hk.elim) (fun _ _ => trivial) HB HB.size (by omega) (fun v1 w1 ho hb hg hat => h v1 w1 ho ⟨hb, hg⟩)
end
theorem Bx.app {w0 W w1 : World} {cs : Array Value} {t : Nat} {v : Value} {l : List Int} (h : Bx w0 cs t W) (hr : RB w0 W v l) (hb : Below w0.heap.size w0 w1) (hg : W.grownBy w1 v.ownBlock) (ht : 5 ≠ t) : Bx w0 cs t w1 :=
  ⟨hb, (hg.block _ (blk_lt h.2) (own_ne (Kd.own_of_R hr) h.2 ht)).trans h.2⟩
section
variable {ops : Array Oper} {rest : List Oper} {o : Oper} {a : Act} {Q : Exit → Act → World → Prop}
/-- append(row, make([]byte, n)...) -/
theorem appZ {w0 W : World} (s x : Operand) (hgd : o.guard = none) (ho : o.op = .call { callee := .builtin .append, args := #[s, x], argTypes := #[23, 3] })
    (v : Value) (xs : List Int) (n : Int) (hs : a.eval s = v) (hx : a.eval x = .int .i64 n) (h0 : 0 ≤ n)
    (HO : RB w0 W v xs) (HB : Below w0.heap.size w0 W) (hl : xs.length + n.toNat < 140737488355328)
    (h : ∀ v1 w1, Hid (RB w0 w1 v1 (xs ++ List.replicate n.toNat 0)) → Hid (Below w0.heap.size w0 w1 ∧ W.grownBy w1 v.ownBlock) → wpList Try.prog ops Q rest (a.put o.dst v1) w1) :
    wpList Try.prog ops Q (o :: rest) a W :=
  Kd.R_append_zeros (Kd.int .u8) (w0 := w0) w0.heap.size hgd s x 23 3 5 (.int .u8 0) 1 ho Try.underlying23 Try.underlying3 infoB rfl (by decide) (by omega) v xs 0 n (fun _ => True) hs hx rfl (fun _ _ => trivial)
    HO h0 HB HB.size (by omega) (fun v1 w1 ho hb hg hat => h v1 w1 ho ⟨hb, hg⟩)
end
/-- A page that is told whole: its slice is 512 long. -/
theorem page_form {w0 w : World} {v : Value} {l : List Int} (h : RB w0 w v l) (hl : l.length = 512) : ∃ A c, v = .slice A 512 c ∧ 512 ≤ c ∧ CB w A l := by
  obtain ⟨A, c, rfl, h1, h2⟩ := h.reads
  rw [hl] at h1
  exact ⟨A, c, by rw [hl], h1, h2⟩
end Go.Proofs.Ytlfcgicobhalmaa.K
