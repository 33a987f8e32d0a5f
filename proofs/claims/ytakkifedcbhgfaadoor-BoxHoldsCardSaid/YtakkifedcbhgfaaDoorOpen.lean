/- From an argument's reading as data to what its cells hold, kind by kind: numbers, bools, strings, slices of anything, structs, arrays. No function of the program is named. -/
import Derived.ChangeSlices
import Derived.ChangeArms
import Derived.ChangeSame
import Derived.OpenShut
import Derived.Deep.Slices
import Derived.ChangeMaps5
import Derived.SizedLaws
import Derived.Test.YtakkifedcbhgfaaDoorWWords
namespace Go.Proofs.YtakkifedcbhgfaaDoor.Open
open Go Go.RowKit Go.ChangeShapes Go.WideShapes Go.Proofs.YtakkifedcbhgfaaDoorW.PrintWords
set_option linter.unusedVariables false
set_option linter.unusedSimpArgs false

/-- Whatever reads at a type holds a value of a kind, of which something is known. -/
def Opens (P : Program) (t : TypeId) {α : Type} (d : Kd α) (Q : α → Prop) : Prop :=
  ∀ (H : Type) (enc : TypeId × Value → H) (w : World) (fuel : Nat) (cs : List Value) (r : DataW H × List MemPlace), DataW.trod enc P w 0 (fun _ => true) true fuel t cs = some r → ∃ x, d.K w x cs ∧ Q x
section
variable {P : Program} {t : TypeId}
theorem opens_int {k : IntKind} (hu : P.underlying t = some (.int k)) : Opens P t (Kd.int k) (fun n => (Lit.int k n).wf = true) := by
  intro H enc w fuel cs r h
  obtain ⟨n, rfl, rfl, hw⟩ := DataW.trod_int hu h
  exact ⟨n, rfl, hw⟩
theorem opens_bool (hu : P.underlying t = some .bool) : Opens P t Kd.bool (fun _ => True) := by
  intro H enc w fuel cs r h
  obtain ⟨b, rfl, rfl⟩ := DataW.trod_bool hu h
  exact ⟨b, rfl, trivial⟩
theorem opens_string (hu : P.underlying t = some .string) : Opens P t Kd.string (fun s => s.size ≤ maxLen) := by
  intro H enc w fuel cs r h
  obtain ⟨s, rfl, rfl, hs⟩ := DataW.trod_string hu h
  exact ⟨s, rfl, hs⟩
theorem list_of_lt {α : Type} {n : Nat} {p : Nat → α → Prop} (h : ∀ i, i < n → ∃ x, p i x) : ∃ l : List α, l.length = n ∧ ∀ i x, l[i]? = some x → p i x := by
  induction n with
  | zero => exact ⟨[], rfl, fun i x hx => by simp at hx⟩
  | succ n ih =>
    obtain ⟨l, hl, hp⟩ := ih (fun i hi => h i (by omega))
    obtain ⟨y, hy⟩ := h n (by omega)
    refine ⟨l ++ [y], by simp [hl], fun i x hx => ?_⟩
    rcases Nat.lt_or_ge i l.length with hlt | hge
    · rw [List.getElem?_append_left hlt] at hx
      exact hp i x hx
    · rw [List.getElem?_append_right hge] at hx
      have : i = n := by
        by_cases e : i - l.length = 0
        · omega
        · rw [List.getElem?_cons] at hx
          simp [e] at hx
      subst this
      rw [hl, Nat.sub_self] at hx
      simp at hx
      rw [← hx]
      exact hy
theorem opens_slice {e : TypeId} {α : Type} {d : Kd α} {Q : α → Prop} (hu : P.underlying t = some (.slice e)) (hsz : P.cellsOf e = d.sz) (he : Opens P e d Q) :
    Opens P t (Kd.slice e d) (fun xs => (∀ x ∈ xs, Q x) ∧ xs.length ≤ 9223372036854775807) := by
  intro H enc w fuel cs r h
  rcases Go.Deep.open_slice hu h with ⟨rfl, rfl⟩ | ⟨a, len, cap, m, n, D, Pl, rfl, hb, hl, hm, hmm, rfl, hx⟩
  · exact ⟨[], ⟨none, 0, rfl, by simp, Kd.C_nil _ _⟩, fun x hx => by simp at hx, by simp⟩
  · have hlm : len ≤ m := by
      rw [hmm]
      simp only [if_true]
      exact hl
    obtain ⟨l, hlen, hp⟩ := list_of_lt (n := len) (p := fun i (x : α) => (∃ cs', w.cells? 0 (a.add (i * P.cellsOf e)) (P.cellsOf e) = some cs' ∧ d.K w x cs') ∧ Q x) (fun i hi => by
      obtain ⟨cs', h1, h2⟩ := hx i (by omega)
      obtain ⟨x, h3, h4⟩ := he H enc w _ _ _ h2
      exact ⟨x, ⟨cs', h1, h3⟩, h4⟩)
    simp only [maxLen] at hm
    refine ⟨l, ⟨some a, cap, by rw [hlen], by omega, rfl, by omega, fun h0 => ⟨a, rfl, fun j p hj => ?_⟩⟩, fun x hx => ?_, by omega⟩
    · obtain ⟨⟨cs', h1, h3⟩, _⟩ := hp j p hj
      obtain ⟨_, hlen', hcell⟩ := World.cells?_some h1
      refine ⟨cs', by rw [hlen', hsz], h3, fun i u hu' => ?_⟩
      have hi : i < cs'.length := by
        rcases Nat.lt_or_ge i cs'.length with h | h
        · exact h
        · rw [List.getElem?_eq_none h] at hu'; cases hu'
      have := hcell i (by omega)
      rw [Go.Deep.add_add, hsz] at this
      rw [this]
      exact hu'
    · obtain ⟨i, hi, rfl⟩ := List.mem_iff_getElem.1 hx
      exact (hp i _ (List.getElem?_eq_getElem hi)).2
/-- The cells from a place on, by their types and places. -/
def OpF (P : Program) (fs : List (TypeId × Nat)) (off : Nat) {α : Type} (d : Kd α) (Q : α → Prop) : Prop :=
  ∀ (H : Type) (enc : TypeId × Value → H) (w : World) (n : Nat) (cs : List Value), cs.length = off + d.sz →
    (∀ f ∈ fs, ∃ r, DataW.trod enc P w 0 (fun _ => true) true n f.1 ((cs.drop f.2).take (P.cellsOf f.1)) = some r) → ∃ x, d.K w x (cs.drop off) ∧ Q x
theorem opF_one {f : TypeId × Nat} {off : Nat} {α : Type} {d : Kd α} {Q : α → Prop} (ho : f.2 = off) (hs : P.cellsOf f.1 = d.sz) (h : Opens P f.1 d Q) : OpF P [f] off d Q := by
  intro H enc w n cs hl hf
  obtain ⟨r, hr⟩ := hf f (by simp)
  rw [ho, hs, List.take_of_length_le (by rw [List.length_drop]; omega)] at hr
  exact h H enc w n _ r hr
theorem opF_cons {f : TypeId × Nat} {fs : List (TypeId × Nat)} {off : Nat} {α β : Type} {a : Kd α} {b : Kd β} {Qa : α → Prop} {Qb : β → Prop} (ho : f.2 = off) (hs : P.cellsOf f.1 = a.sz) (ha : Opens P f.1 a Qa)
    (hb : OpF P fs (off + a.sz) b Qb) : OpF P (f :: fs) off (Kd.pair a b) (fun x => Qa x.1 ∧ Qb x.2) := by
  intro H enc w n cs hl hf
  have hl' : cs.length = off + (a.sz + b.sz) := hl
  obtain ⟨r, hr⟩ := hf f (by simp)
  rw [ho, hs] at hr
  obtain ⟨x, hx, hq⟩ := ha H enc w n _ r hr
  obtain ⟨y, hy, hq'⟩ := hb H enc w n cs (by omega) (fun g hg => hf g (by simp [hg]))
  refine ⟨(x, y), ⟨_, _, ?_, hx, hy⟩, hq, hq'⟩
  rw [← List.drop_drop, List.take_append_drop]
theorem opens_struct {fs : Array Field} {α : Type} {d : Kd α} {Q : α → Prop} (hu : P.underlying t = some (.struct fs)) (hsz : P.cellsOf t = d.sz) (h : OpF P (fs.toList.map fun f => (f.type, f.offset)) 0 d Q) : Opens P t d Q := by
  intro H enc w fuel cs r hr
  obtain ⟨xs, n, _, rfl, hl, hlen, hf⟩ := DataW.trod_struct hu hr
  obtain ⟨x, hx, hq⟩ := h H enc w n cs (by omega) (fun f hf' => by
    obtain ⟨g, hg, rfl⟩ := List.mem_map.1 hf'
    obtain ⟨i, hi, rfl⟩ := List.mem_iff_getElem.1 hg
    have := hf i fs[i] (by simp [Array.getElem?_eq_getElem (by simpa using hi)])
    simp only [Array.getElem_toList]
    rw [this]
    exact ⟨_, List.getElem?_eq_getElem (by simpa [hlen] using hi)⟩)
  rw [List.drop_zero] at hx
  exact ⟨x, hx, hq⟩
theorem opens_array {n : Nat} {e : TypeId} {α : Type} {d : Kd α} {Q : α → Prop} (hu : P.underlying t = some (.array n e)) (hsz : P.cellsOf t = d.sz) (h : OpF P ((List.range n).map fun i => (e, i * P.cellsOf e)) 0 d Q) : Opens P t d Q := by
  intro H enc w fuel cs r hr
  obtain ⟨xs, m, _, rfl, hl, hlen, hf⟩ := DataW.trod_array hu hr
  obtain ⟨x, hx, hq⟩ := h H enc w m cs (by omega) (fun f hf' => by
    obtain ⟨i, hi, rfl⟩ := List.mem_map.1 hf'
    have hi := List.mem_range.1 hi
    have := hf i hi
    simp only
    rw [this]
    exact ⟨_, List.getElem?_eq_getElem (by omega)⟩)
  rw [List.drop_zero] at hx
  exact ⟨x, hx, hq⟩
theorem okWide_array {w : World} {r : Reach} {base n : Nat} {e : TypeId} {v : Value} (ht : P.underlying t = some (.array n e)) (h : Value.okWide P w r base t v) : ∃ cs, v = .agg cs ∧ cs.size = P.cellsOf t := by
  simp only [Value.okWide, ht] at h
  obtain ⟨cs, h1, h2, _⟩ := h
  exact ⟨cs, h1, h2⟩
/-- From a value's cells to the value. -/
theorem agg_of {v : Value} {cs : Array Value} (h : v = .agg cs) (l : List Value) (hl : cs.toList = l) : v = .agg l.toArray := by rw [h, ← hl]
end
end Go.Proofs.YtakkifedcbhgfaaDoor.Open
