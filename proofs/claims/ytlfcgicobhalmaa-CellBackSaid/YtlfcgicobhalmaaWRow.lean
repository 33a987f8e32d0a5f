/- Rows of the call's own whose elements hold what was there when the call began: append, what is read of them. -/
import Derived.Test.YtlfcgicobhalmaaBase2
namespace Go.Proofs.Ytlfcgicobhalmaa.K
open Go Go.RowKit Go.Proofs.YtlfcgicobhalmaaW.PrintWords Go.Proofs.YtlfcgicobhalmaaW.PrintLast Go.Proofs.YtlfcgicobhalmaaW.PrintMore
set_option linter.unusedVariables false
set_option linter.unusedSimpArgs false
section
variable {α : Type} {d : Kd α} {e : Nat} {w0 W W' : World} {v : Value} {l : List α}
/-- A row (element type e) that a call which began in w0 has made, of elements that were told in w0. -/
def RP (d : Kd α) (e : Nat) (w0 W : World) (v : Value) (l : List α) : Prop := OwnRow (d.K w0) e d.sz W w0.heap.size v l
theorem RP.nil (d : Kd α) (e : Nat) (w0 W : World) : RP d e w0 W (.slice none 0 0) [] := OwnRow.none_ _ _ _ _ _
theorem RP.below (h : RP d e w0 W v l) (hb : Below W.heap.size W W') : RP d e w0 W' v l := by
  obtain ⟨i, h1, h2⟩ := h
  exact ⟨i, pw_own_below h1 hb, h2⟩
theorem RP.alloc (h : RP d e w0 W v l) (o : Obj) : RP d e w0 (W.alloc o) v l := h.below ((Below.refl _ _).alloc (Nat.le_refl _) _)
theorem RP.setCell (h : RP d e w0 W v l) {p : Addr} (hne : some p.block ≠ v.ownBlock) (u : Value) : RP d e w0 (W.setCell p u) v l := by
  obtain ⟨i, h1, h2⟩ := h
  exact ⟨i, own_setCell h1 hne u, h2⟩
theorem RP.ne (h : RP d e w0 W v l) {g t : Nat} {cs : Array Value} (hg : W.heap[g]? = some (.cells cs t (0, 0))) (hne : e ≠ t) : some g ≠ v.ownBlock := by
  obtain ⟨i, h1, h2⟩ := h
  exact own_ne h1 hg hne
theorem RP.base (h : RP d e w0 W v l) (k : Nat) (hk : v.ownBlock = some k) : w0.heap.size ≤ k := by
  obtain ⟨i, h1, h2⟩ := h
  exact own_base h1 k hk
theorem RP.reads (h : RP d e w0 W v l) (hb : Below w0.heap.size w0 W) : ∃ A c, v = .slice A l.length c ∧ l.length ≤ c ∧ d.C W A l.length l := by
  obtain ⟨i, h1, h2⟩ := h
  have hr : Reps (d.K W) d.sz l i := h2.imp_ (fun p c hp => d.K_below hb hp)
  have hcap : ∃ A c, v = .slice A l.length c ∧ l.length ≤ c := by
    rcases h1.2 with ⟨rfl, h0⟩ | ⟨g, cap, cur, rfl, _, _, hn, _⟩
    · exact ⟨none, 0, by rw [h0], by omega⟩
    · exact ⟨_, cap, rfl, hn⟩
  obtain ⟨A, c, rfl, hc⟩ := hcap
  obtain ⟨A', c', he, hC⟩ := own_reads_row h1 hr rfl
  injection he with e1 e2 e3
  subst e1
  exact ⟨A, c, rfl, hc, hC⟩
end
section
variable {ops : Array Oper} {rest : List Oper} {o : Oper} {a : Act} {Q : Exit → Act → World → Prop} {α : Type}
/-- append(row, one element). -/
theorem appP (d : Kd α) {w0 W : World} (s x : Operand) (t e : TypeId) (z : Value) (bytes : Nat) (hgd : o.guard = none) (ho : o.op = .call { callee := .builtin .append, args := #[s, x], argTypes := #[t, t] })
    (ht : Try.prog.underlying t = some (.slice e)) (hinfo : (Try.prog.info? e).map (fun i => (i.zero, i.size, i.bytes)) = some (some z, d.sz, bytes)) (hz : z.cells.size = d.sz) (hs0 : 0 < d.sz) (hb0 : 0 < bytes)
    (v : Value) (xs : List α) (p : α) (ys : List Value) (hs : a.eval s = v) (hx : a.eval x = .slice (some ⟨W.heap.size, 0, none⟩) 1 1) (hK : d.K w0 p ys)
    (HO : RP d e w0 W v xs) (HB : Below w0.heap.size w0 W) (hl : (xs.length + 1) * bytes ≤ 140737488355328)
    (h : ∀ v1 w1, Hid (RP d e w0 w1 v1 (xs ++ [p])) → Hid (Below w0.heap.size w0 w1 ∧ W.grownBy w1 v.ownBlock) → wpList Try.prog ops Q rest (a.put o.dst v1) w1) :
    wpList Try.prog ops Q (o :: rest) a (W.alloc (.cells ys.toArray e)) := by
  obtain ⟨inner, h1, h2⟩ := HO
  refine print_append_cells (w0 := w0) w0.heap.size hgd s x t e z d.sz bytes ho ht hinfo hz hs0 hb0 v xs.length inner ys hs hx (d.K_len hK) (d.K_one hK) h1 HB HB.size hl ?_
  intro v1 w1 hown hb hg _
  refine h v1 w1 ⟨inner ++ ys, ?_, h2.snoc hK (d.K_len hK)⟩ ⟨hb, hg⟩
  rw [List.length_append, List.length_singleton]
  exact hown
end
end Go.Proofs.Ytlfcgicobhalmaa.K
