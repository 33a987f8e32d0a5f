/- Texts laid as one: Small laws for the walks of this seat: rows of bytes that a call makes, that are read, that are turned into strings. · From an argument's reading as data to what its cells hold, kind by kind: numbers, bools, strings, slices of anything, structs, arrays. No function of the program is named. · Blocks of a few cells, and what is left of them. · A region that draws its order, each operation looked at once: what each one's slot holds is told by a relation that is kept while the world goes on; the order doesn't matter then. No function of the program is named. · A region that draws its order, with operations that turn the world once: what is known of the world may hang on what has been done. · One operation by its own law, anywhere in a walk. -/
import Derived.Test.YtljcingmjemohaaProg
import Derived.Below
import Derived.Deep.Draws
import Derived.Deep.AppendLies
import Derived.Maps.AppendAt
import Derived.OwnWalk
import Derived.Laws.BytesArg
import Derived.Laws.MakeOwn
import Derived.Laws.OwnMore
import Derived.Deep.OwnRows
import Derived.Tactics
import Derived.Lib.ConvBytes
import Derived.Laws.Slices
import Derived.WalkKit
import Derived.KernelRfl
import Derived.RowKit3
import Derived.Deep.LoopGhost
import Derived.Deep.QuietTactic
import Derived.BigQuiet
import Derived.WideLaws
import Derived.Deep.DeepCutAuto
import Derived.Deep.CutBlock
import Derived.Deep.RegionHeld3
import Derived.Laws.Rows
import Derived.Lib.AppendStr
import Derived.ArgAppend
import Derived.Laws.IdiomCopy
import Derived.OrdersHeld
import Derived.Laws.BitsLemmas
import Derived.RowKit
import Derived.Lib.SliceRun
import Derived.Lib.Hide
import Derived.Outline
import Derived.IntWalk
import Derived.WalkSpells
import Derived.Test.YtljcingmjemohaaWWords
import Derived.Test.YtljcingmjemohaaWLast
import Derived.Test.YtljcingmjemohaaWMore
import Derived.Test.YtljcingmjemohaaKM
import Derived.ChangeSlices
import Derived.ChangeArms
import Derived.ChangeSame
import Derived.OpenShut
import Derived.Deep.Slices
import Derived.ChangeMaps5
import Derived.SizedLaws
import Derived.Handy
import Derived.Orders
namespace Go.Proofs.Ytljcingmjemohaa.K
open Go Go.RowKit Go.Proofs.YtljcingmjemohaaW.PrintWords Go.Proofs.YtljcingmjemohaaW.PrintLast Go.Proofs.YtljcingmjemohaaW.PrintMore
set_option linter.unusedVariables false
set_option linter.unusedSimpArgs false

/-- All are bytes. -/
def bytesOk (l : List Int) : Prop := ∀ x ∈ l, 0 ≤ x ∧ x < 256
theorem bytesOk_nil : bytesOk [] := fun x hx => by simp at hx
theorem bytesOk_append {l m : List Int} (h : bytesOk l) (k : bytesOk m) : bytesOk (l ++ m) := fun x hx => by
  rcases List.mem_append.1 hx with hx | hx
  · exact h x hx
  · exact k x hx
theorem infoB : (Try.prog.info? 5).map (fun i => (i.zero, i.size, i.bytes)) = some (some (.int .u8 0), 1, 1) := by kernel_rfl
/-- A row of bytes that a call which began in w0 has made. -/
def RB (w0 w : World) (v : Value) (l : List Int) : Prop := Kd.R (Kd.int .u8) 5 w w0.heap.size (fun _ => True) v l
/-- A row of bytes that is read. -/
def CB (w : World) (A : Option Addr) (l : List Int) : Prop := Kd.C (Kd.int .u8) w A l.length l
theorem RB.nil (w0 w : World) : RB w0 w (.slice none 0 0) [] := Kd.R_nil _ _ _ _ _
theorem RB.drew {w0 w : World} {v : Value} {l : List Int} (h : RB w0 w v l) : RB w0 w.drew v l := Kd.R_drew h
theorem RB.drewN {w0 w : World} {v : Value} {l : List Int} (h : RB w0 w v l) (n : Nat) : RB w0 (w.drewN n) v l := Kd.R_drewN h n
theorem RB.alloc {w0 w : World} {v : Value} {l : List Int} (h : RB w0 w v l) (o : Obj) : RB w0 (w.alloc o) v l := Kd.R_alloc h o
theorem RB.below {w0 w w1 : World} {v : Value} {l : List Int} (h : RB w0 w v l) (hb : Below w.heap.size w w1) : RB w0 w1 v l := Kd.R_below h hb
theorem RB.lower {w0 w w1 : World} {v : Value} {l : List Int} (h : RB w w1 v l) (hb : w0.heap.size ≤ w.heap.size) : RB w0 w1 v l := Kd.R_lower h hb
theorem RB.reads {w0 w : World} {v : Value} {l : List Int} (h : RB w0 w v l) : ∃ A c, v = .slice A l.length c ∧ l.length ≤ c ∧ CB w A l := Kd.R_reads h
theorem CB.drew {w : World} {A : Option Addr} {l : List Int} (h : CB w A l) : CB w.drew A l := Kd.C_drew h
theorem CB.drewN {w : World} {A : Option Addr} {l : List Int} (h : CB w A l) (n : Nat) : CB (w.drewN n) A l := Kd.C_drewN h n
theorem CB.alloc {w : World} {A : Option Addr} {l : List Int} (h : CB w A l) (o : Obj) : CB (w.alloc o) A l := Kd.C_alloc h o
theorem CB.below {w w1 : World} {A : Option Addr} {l : List Int} (h : CB w A l) (hb : Below w.heap.size w w1) : CB w1 A l := Kd.C_below h hb
theorem CB.nil (w : World) : CB w none [] := Kd.C_nil _ _
theorem CB.at_ {w : World} {A : Option Addr} {l : List Int} (h : CB w A l) (i : Nat) (hi : i < l.length) : ∃ ad, A = some ad ∧ w.cell? (ad.add i) = some (.int .u8 (l.getD i 0)) := by
  obtain ⟨ad, e, hx⟩ := Kd.at_int h (i : Int) (by omega) (by omega)
  refine ⟨ad, e, ?_⟩
  rw [Int.toNat_natCast] at hx
  exact hx
/-- A literal of bytes. -/
theorem RB.lit {w0 W : World} (l : List Int) (hb : w0.heap.size ≤ W.heap.size) (hl : l.length ≤ maxLen) :
    RB w0 (W.alloc (.cells (l.map (Value.int .u8)).toArray 5)) (.slice (some ⟨W.heap.size, 0, none⟩) l.length l.length) l := by
  refine Kd.R_of_own ⟨by simp [encs], .inr ⟨W.heap.size, l.length, (l.map (Value.int .u8)).toArray, rfl, hb, heap_alloc_new W _, Nat.le_refl _, hl, by simp, ?_⟩⟩ (fun _ _ => trivial)
  simp only [encs, Nat.mul_one]
  exact List.take_of_length_le (by simp)
theorem RB.lit0 {w0 W : World} (hb : w0.heap.size ≤ W.heap.size) : RB w0 (W.alloc (.cells #[] 5)) (.slice (some ⟨W.heap.size, 0, none⟩) 0 0) [] := RB.lit [] hb (by simp)
section
variable {ops : Array Oper} {rest : List Oper} {o : Oper} {a : Act} {Q : Exit → Act → World → Prop}
/-- append(row, one byte) -/
theorem app1 {w0 W : World} (s x : Operand) (hgd : o.guard = none) (ho : o.op = .call { callee := .builtin .append, args := #[s, x], argTypes := #[32, 32] })
    (v : Value) (xs : List Int) (p : Int) (hs : a.eval s = v) (hx : a.eval x = .slice (some ⟨W.heap.size, 0, none⟩) 1 1)
    (HO : RB w0 W v xs) (HB : Below w0.heap.size w0 W) (hl : xs.length < 140737488355328)
    (h : ∀ v1 w1, Hid (RB w0 w1 v1 (xs ++ [p])) → Hid (Below w0.heap.size w0 w1) → wpList Try.prog ops Q rest (a.put o.dst v1) w1) :
    wpList Try.prog ops Q (o :: rest) a (W.alloc (.cells #[.int .u8 p] 5)) :=
  Kd.R_append (Kd.int .u8) (w0 := w0) w0.heap.size hgd s x 32 5 (.int .u8 0) 1 ho Try.underlying32 infoB rfl (by decide) (by omega) v xs p [.int .u8 p] (fun _ => True) (fun _ => False) hs hx rfl
    (fun _ hk => hk.elim) (fun _ _ => trivial) HO HB HB.size (by omega) (fun v1 w1 ho hb hg hat => h v1 w1 ho hb)
/-- append(row, bytes...) -/
theorem appN {w0 W : World} (s x : Operand) (hgd : o.guard = none) (ho : o.op = .call { callee := .builtin .append, args := #[s, x], argTypes := #[32, 32] })
    (v : Value) (xs ys : List Int) (A : Option Addr) (c : Nat) (hs : a.eval s = v) (hx : a.eval x = .slice A ys.length c)
    (HO : RB w0 W v xs) (HR : CB W A ys) (HB : Below w0.heap.size w0 W) (hl : xs.length + ys.length < 140737488355328)
    (h : ∀ v1 w1, Hid (RB w0 w1 v1 (xs ++ ys)) → Hid (Below w0.heap.size w0 w1) → wpList Try.prog ops Q rest (a.put o.dst v1) w1) :
    wpList Try.prog ops Q (o :: rest) a W :=
  Kd.R_append_rows (Kd.int .u8) (w0 := w0) w0.heap.size hgd s x 32 5 (.int .u8 0) 1 ho Try.underlying32 infoB rfl (by decide) (by omega) v xs ys A ys.length c (fun _ => True) (fun _ => False) hs hx HO HR
    (fun x cs hk => hk) (fun _ hk => hk.elim) (fun _ _ => trivial) HB HB.size (by omega) (fun v1 w1 ho hb hg hat => h v1 w1 ho hb)
end
section
variable {ops : Array Oper} {rest : List Oper} {o : Oper} {a : Act} {Q : Exit → Act → World → Prop}
/-- append(row, string...) -/
theorem appS {w0 W : World} (s x : Operand) (hgd : o.guard = none) (ho : o.op = .call { callee := .builtin .append, args := #[s, x], argTypes := #[32, 9] })
    (v : Value) (xs : List Int) (y : ByteArray) (hs : a.eval s = v) (hx : a.eval x = .string y)
    (HO : RB w0 W v xs) (HB : Below w0.heap.size w0 W) (hl : xs.length + y.size < 140737488355328)
    (h : ∀ v1 w1, Hid (RB w0 w1 v1 (xs ++ bytesOf y)) → Hid (Below w0.heap.size w0 w1) → wpList Try.prog ops Q rest (a.put o.dst v1) w1) :
    wpList Try.prog ops Q (o :: rest) a W :=
  print_append_str (w0 := w0) w0.heap.size hgd s x 32 9 5 ho Try.underlying32 Try.underlying9 infoB v xs y hs hx (Kd.own_of_R HO) HB HB.size (by omega)
    (fun v1 w1 ho hb hg => h v1 w1 (Kd.R_of_own ho (fun _ _ => trivial)) hb)
/-- make([]byte, 0, c) -/
theorem mk0 {w0 W : World} (x y : Operand) (hgd : o.guard = none) (ho : o.op = .makeSlice 32 x y) (c : Nat) (hx : a.eval x = .int .i64 0) (hy : a.eval y = .int .i64 (c : Int)) (hc : c ≤ 100000000)
    (HB : Below w0.heap.size w0 W)
    (h : ∀ v1 w1, Hid (RB w0 w1 v1 []) → Hid (Below w0.heap.size w0 w1) → wpList Try.prog ops Q rest (a.put o.dst v1) w1) : wpList Try.prog ops Q (o :: rest) a W := by
  obtain ⟨i0, hi, hzz⟩ := Option.map_eq_some_iff.1 infoB
  simp only [Prod.mk.injEq] at hzz
  obtain ⟨hz0, hz1, hz2⟩ := hzz
  have hr := run_make (P := Try.prog) W 32 5 i0 (.int .u8 0) Try.underlying32 hi hz0 .i64 .i64 0 c (Int.le_refl _) (by omega) (by rw [hz2]; omega) (by omega)
  simp only [Int.toNat_zero, Int.toNat_natCast, hz1, Nat.mul_one] at hr
  refine wpList_plain hgd fun _ hK => ?_
  unfold Oper.wp execOp
  simp only [ho, hx, hy, Sem.run_bind, Sem.run_pure, hr, Result.andThen_ok]
  exact hK _ _ (h _ _ (Kd.R_of_own (World.ownsRow_made W _ c HB.size (by simp only [maxLen]; omega) (by simp [size_madeCells])) (fun _ _ => trivial)) (HB.alloc HB.size _))
end
/-- A row that is not empty, as a slice. -/
theorem RB.form {w0 w : World} {v : Value} {l : List Int} (h : RB w0 w v l) (h0 : 0 < l.length) : ∃ g cap, v = .slice (some ⟨g, 0, none⟩) l.length cap ∧ l.length ≤ cap ∧ CB w (some ⟨g, 0, none⟩) l := by
  obtain ⟨A, c, rfl, hc, hC⟩ := h.reads
  obtain ⟨g, cap, e, _⟩ := Kd.R_form h h0
  injection e with e1 e2 e3
  subst e1
  exact ⟨g, c, rfl, hc, hC⟩
/-! worlds that go on -/
/-- Whatever was there is as it was. -/
abbrev Bel (W W' : World) : Prop := Below W.heap.size W W'
theorem Bel.refl (W : World) : Bel W W := Below.refl _ _
theorem bfrom {w w1 : World} (h : Below w.drew.heap.size w.drew w1) : Below w.heap.size w w1 := ⟨h.os, h.tape, h.output, h.size, h.block⟩
theorem bthen {a w w1 : World} (h : Below a.heap.size a w) (k : Below w.heap.size w w1) : Below a.heap.size a w1 := below_then h h.size k
theorem Bel.drew (W : World) : Bel W W.drew := (Below.refl _ _).drew
/-! strings -/
theorem RB.str {w0 w : World} {v : Value} {l : List Int} (h : RB w0 w v l) : (convert 32 9 v).run Try.prog w = .ok (.string (strOfNums l)) w :=
  own_string Try.underlying32 Try.underlying5 Try.underlying9 (Kd.own_of_R h)
theorem CB.str {w : World} {A : Option Addr} {c : Nat} {l : List Int} (h : CB w A l) : (convert 32 9 (.slice A l.length c)).run Try.prog w = .ok (.string (strOfNums l)) w :=
  string_of_reads Try.underlying32 Try.underlying5 Try.underlying9 (Kd.reads_of_C (enc := Value.int .u8) (d := (0 : Int)) (h1 := fun _ => rfl) h)
theorem CB.take {w : World} {A : Option Addr} {l : List Int} (h : CB w A l) (k : Nat) (hk : k ≤ l.length) : CB w A (l.take k) := by
  refine ⟨rfl, by have := h.2.1; rw [List.length_take]; omega, fun h0 => ?_⟩
  rw [List.length_take] at h0
  obtain ⟨ad, e, hc⟩ := h.2.2 (by omega)
  refine ⟨ad, e, fun j p hj => hc j p ?_⟩
  rw [List.getElem?_take] at hj
  split at hj
  · exact hj
  · cases hj
/-! bounds -/
def U64 (n : Int) : Prop := 0 ≤ n ∧ n < 18446744073709551616
theorem u64_wf {n : Int} (h : (Lit.int .u64 n).wf = true) : U64 n := by
  have h1 : IntKind.u64.min = 0 := rfl
  have h2 : IntKind.u64.max = 18446744073709551615 := rfl
  simp only [Lit.wf, Bool.and_eq_true, decide_eq_true_eq] at h
  exact ⟨by omega, by omega⟩
theorem u8_wf {n : Int} (h : (Lit.int .u8 n).wf = true) : 0 ≤ n ∧ n < 256 := by
  have h1 : IntKind.u8.min = 0 := rfl
  have h2 : IntKind.u8.max = 255 := rfl
  simp only [Lit.wf, Bool.and_eq_true, decide_eq_true_eq] at h
  omega
theorem bytesOk_wf {l : List Int} (h : ∀ x ∈ l, (Lit.int .u8 x).wf = true) : bytesOk l := fun x hx => u8_wf (h x hx)
/-! rows that alone have turned -/
theorem only_drew {a w : World} {row : Option Nat} (h : a.grownBy w row) : a.grownBy w.drew row := ⟨h.os, h.tape, h.output, h.size, h.block⟩
theorem only_drewN {a w : World} {row : Option Nat} (h : a.grownBy w row) (n : Nat) : a.grownBy (w.drewN n) row := ⟨h.os, h.tape, h.output, h.size, h.block⟩
theorem only_alloc {a w : World} {row : Option Nat} (h : a.grownBy w row) (o : Obj) : a.grownBy (w.alloc o) row :=
  ⟨h.os, h.tape, h.output, Nat.le_trans h.size (by simp), fun i hi hne => (Below.heap_alloc w o i (Nat.lt_of_lt_of_le hi h.size)).trans (h.block i hi hne)⟩
theorem only_setCell {a w : World} {g : Nat} (h : a.grownBy w (some g)) {p : Addr} (hp : p.block = g ∨ a.heap.size ≤ p.block) (u : Value) : a.grownBy (w.setCell p u) (some g) :=
  ⟨h.os, h.tape, h.output, by simpa [World.setCell] using h.size, fun i hi hne => (Below.heap_setCell w p u i (by
    rintro rfl
    rcases hp with hp | hp
    · exact hne (by rw [hp])
    · omega)).trans (h.block i hi hne)⟩
theorem heap_set (w : World) (g i t : Nat) (cs : Array Value) (u : Value) (h : w.heap[g]? = some (.cells cs t (0, 0))) : (w.setCell ⟨g, i, none⟩ u).heap[g]? = some (.cells (cs.setIfInBounds i u) t (0, 0)) := by
  simp [World.setCell, Array.getElem?_modify, h]
end Go.Proofs.Ytljcingmjemohaa.K
namespace Go.Proofs.Ytljcingmjemohaa.Open
open Go Go.RowKit Go.ChangeShapes Go.WideShapes Go.Proofs.YtljcingmjemohaaW.PrintWords
set_option linter.unusedVariables false
set_option linter.unusedSimpArgs false

/-- Whatever reads at a type holds a value of a kind, of which something is known. -/
def Opens (P : Program) (t : TypeId) {α : Type} (d : Kd α) (Q : α → Prop) : Prop :=
  ∀ (H : Type) (enc : TypeId × Value → H) (w : World) (fuel : Nat) (cs : List Value) (r : DataW H × List MemPlace), DataW.trod enc P w 0 (fun _ => true) true fuel t cs = some r → ∃ x, d.K w x cs ∧ Q x
section
variable {P : Program} {t : TypeId}
theorem opens_int {k : IntKind} (hu : P.underlying t = some (.int k)) : Opens P t (Kd.int k) (fun n => (Lit.int k n).wf = true) := by
  intro H enc w fuel cs r h
  obtain ⟨n, rfl, rfl, hw⟩ := DataW.trod_int hu h
  exact ⟨n, rfl, hw⟩
theorem opens_bool (hu : P.underlying t = some .bool) : Opens P t Kd.bool (fun _ => True) := by
  intro H enc w fuel cs r h
  obtain ⟨b, rfl, rfl⟩ := DataW.trod_bool hu h
  exact ⟨b, rfl, trivial⟩
theorem opens_string (hu : P.underlying t = some .string) : Opens P t Kd.string (fun s => s.size ≤ maxLen) := by
  intro H enc w fuel cs r h
  obtain ⟨s, rfl, rfl, hs⟩ := DataW.trod_string hu h
  exact ⟨s, rfl, hs⟩
theorem list_of_lt {α : Type} {n : Nat} {p : Nat → α → Prop} (h : ∀ i, i < n → ∃ x, p i x) : ∃ l : List α, l.length = n ∧ ∀ i x, l[i]? = some x → p i x := by
  induction n with
  | zero => exact ⟨[], rfl, fun i x hx => by simp at hx⟩
  | succ n ih =>
    obtain ⟨l, hl, hp⟩ := ih (fun i hi => h i (by omega))
    obtain ⟨y, hy⟩ := h n (by omega)
    refine ⟨l ++ [y], by simp [hl], fun i x hx => ?_⟩
    rcases Nat.lt_or_ge i l.length with hlt | hge
    · rw [List.getElem?_append_left hlt] at hx
      exact hp i x hx
    · rw [List.getElem?_append_right hge] at hx
      have : i = n := by
        by_cases e : i - l.length = 0
        · omega
        · rw [List.getElem?_cons] at hx
          simp [e] at hx
      subst this
      rw [hl, Nat.sub_self] at hx
      simp at hx
      rw [← hx]
      exact hy
theorem opens_slice {e : TypeId} {α : Type} {d : Kd α} {Q : α → Prop} (hu : P.underlying t = some (.slice e)) (hsz : P.cellsOf e = d.sz) (he : Opens P e d Q) :
    Opens P t (Kd.slice e d) (fun xs => (∀ x ∈ xs, Q x) ∧ xs.length ≤ 9223372036854775807) := by
  intro H enc w fuel cs r h
  rcases Go.Deep.open_slice hu h with ⟨rfl, rfl⟩ | ⟨a, len, cap, m, n, D, Pl, rfl, hb, hl, hm, hmm, rfl, hx⟩
  · exact ⟨[], ⟨none, 0, rfl, by simp, Kd.C_nil _ _⟩, fun x hx => by simp at hx, by simp⟩
  · have hlm : len ≤ m := by
      rw [hmm]
      simp only [if_true]
      exact hl
    obtain ⟨l, hlen, hp⟩ := list_of_lt (n := len) (p := fun i (x : α) => (∃ cs', w.cells? 0 (a.add (i * P.cellsOf e)) (P.cellsOf e) = some cs' ∧ d.K w x cs') ∧ Q x) (fun i hi => by
      obtain ⟨cs', h1, h2⟩ := hx i (by omega)
      obtain ⟨x, h3, h4⟩ := he H enc w _ _ _ h2
      exact ⟨x, ⟨cs', h1, h3⟩, h4⟩)
    simp only [maxLen] at hm
    refine ⟨l, ⟨some a, cap, by rw [hlen], by omega, rfl, by omega, fun h0 => ⟨a, rfl, fun j p hj => ?_⟩⟩, fun x hx => ?_, by omega⟩
    · obtain ⟨⟨cs', h1, h3⟩, _⟩ := hp j p hj
      obtain ⟨_, hlen', hcell⟩ := World.cells?_some h1
      refine ⟨cs', by rw [hlen', hsz], h3, fun i u hu' => ?_⟩
      have hi : i < cs'.length := by
        rcases Nat.lt_or_ge i cs'.length with h | h
        · exact h
        · rw [List.getElem?_eq_none h] at hu'; cases hu'
      have := hcell i (by omega)
      rw [Go.Deep.add_add, hsz] at this
      rw [this]
      exact hu'
    · obtain ⟨i, hi, rfl⟩ := List.mem_iff_getElem.1 hx
      exact (hp i _ (List.getElem?_eq_getElem hi)).2
/-- The cells from a place on, by their types and places. -/
def OpF (P : Program) (fs : List (TypeId × Nat)) (off : Nat) {α : Type} (d : Kd α) (Q : α → Prop) : Prop :=
  ∀ (H : Type) (enc : TypeId × Value → H) (w : World) (n : Nat) (cs : List Value), cs.length = off + d.sz →
    (∀ f ∈ fs, ∃ r, DataW.trod enc P w 0 (fun _ => true) true n f.1 ((cs.drop f.2).take (P.cellsOf f.1)) = some r) → ∃ x, d.K w x (cs.drop off) ∧ Q x
theorem opF_one {f : TypeId × Nat} {off : Nat} {α : Type} {d : Kd α} {Q : α → Prop} (ho : f.2 = off) (hs : P.cellsOf f.1 = d.sz) (h : Opens P f.1 d Q) : OpF P [f] off d Q := by
  intro H enc w n cs hl hf
  obtain ⟨r, hr⟩ := hf f (by simp)
  rw [ho, hs, List.take_of_length_le (by rw [List.length_drop]; omega)] at hr
  exact h H enc w n _ r hr
theorem opF_cons {f : TypeId × Nat} {fs : List (TypeId × Nat)} {off : Nat} {α β : Type} {a : Kd α} {b : Kd β} {Qa : α → Prop} {Qb : β → Prop} (ho : f.2 = off) (hs : P.cellsOf f.1 = a.sz) (ha : Opens P f.1 a Qa)
    (hb : OpF P fs (off + a.sz) b Qb) : OpF P (f :: fs) off (Kd.pair a b) (fun x => Qa x.1 ∧ Qb x.2) := by
  intro H enc w n cs hl hf
  have hl' : cs.length = off + (a.sz + b.sz) := hl
  obtain ⟨r, hr⟩ := hf f (by simp)
  rw [ho, hs] at hr
  obtain ⟨x, hx, hq⟩ := ha H enc w n _ r hr
  obtain ⟨y, hy, hq'⟩ := hb H enc w n cs (by omega) (fun g hg => hf g (by simp [hg]))
  refine ⟨(x, y), ⟨_, _, ?_, hx, hy⟩, hq, hq'⟩
  rw [← List.drop_drop, List.take_append_drop]
theorem opens_struct {fs : Array Field} {α : Type} {d : Kd α} {Q : α → Prop} (hu : P.underlying t = some (.struct fs)) (hsz : P.cellsOf t = d.sz) (h : OpF P (fs.toList.map fun f => (f.type, f.offset)) 0 d Q) : Opens P t d Q := by
  intro H enc w fuel cs r hr
  obtain ⟨xs, n, _, rfl, hl, hlen, hf⟩ := DataW.trod_struct hu hr
  obtain ⟨x, hx, hq⟩ := h H enc w n cs (by omega) (fun f hf' => by
    obtain ⟨g, hg, rfl⟩ := List.mem_map.1 hf'
    obtain ⟨i, hi, rfl⟩ := List.mem_iff_getElem.1 hg
    have := hf i fs[i] (by simp [Array.getElem?_eq_getElem (by simpa using hi)])
    simp only [Array.getElem_toList]
    rw [this]
    exact ⟨_, List.getElem?_eq_getElem (by simpa [hlen] using hi)⟩)
  rw [List.drop_zero] at hx
  exact ⟨x, hx, hq⟩
theorem opens_array {n : Nat} {e : TypeId} {α : Type} {d : Kd α} {Q : α → Prop} (hu : P.underlying t = some (.array n e)) (hsz : P.cellsOf t = d.sz) (h : OpF P ((List.range n).map fun i => (e, i * P.cellsOf e)) 0 d Q) : Opens P t d Q := by
  intro H enc w fuel cs r hr
  obtain ⟨xs, m, _, rfl, hl, hlen, hf⟩ := DataW.trod_array hu hr
  obtain ⟨x, hx, hq⟩ := h H enc w m cs (by omega) (fun f hf' => by
    obtain ⟨i, hi, rfl⟩ := List.mem_map.1 hf'
    have hi := List.mem_range.1 hi
    have := hf i hi
    simp only
    rw [this]
    exact ⟨_, List.getElem?_eq_getElem (by omega)⟩)
  rw [List.drop_zero] at hx
  exact ⟨x, hx, hq⟩
theorem okWide_array {w : World} {r : Reach} {base n : Nat} {e : TypeId} {v : Value} (ht : P.underlying t = some (.array n e)) (h : Value.okWide P w r base t v) : ∃ cs, v = .agg cs ∧ cs.size = P.cellsOf t := by
  simp only [Value.okWide, ht] at h
  obtain ⟨cs, h1, h2, _⟩ := h
  exact ⟨cs, h1, h2⟩
/-- From a value's cells to the value. -/
theorem agg_of {v : Value} {cs : Array Value} (h : v = .agg cs) (l : List Value) (hl : cs.toList = l) : v = .agg l.toArray := by rw [h, ← hl]
end
end Go.Proofs.Ytljcingmjemohaa.Open
namespace Go.Proofs.Ytljcingmjemohaa.K
open Go Go.RowKit Go.Proofs.YtljcingmjemohaaW.PrintWords Go.Proofs.YtljcingmjemohaaW.PrintLast Go.Proofs.YtljcingmjemohaaW.PrintMore
set_option linter.unusedVariables false
set_option linter.unusedSimpArgs false
/-! blocks of a few cells, and what is left of them -/
/-- A block that holds just these cells. -/
def Blk (W : World) (g : Nat) (cs : Array Value) (t : Nat) : Prop := W.heap[g]? = some (.cells cs t (0, 0))
theorem Blk.new (W : World) (cs : Array Value) (t : Nat) : Blk (W.alloc (.cells cs t)) W.heap.size cs t := heap_alloc_new W _
theorem Blk.new_at {W : World} {g : Nat} (hg : g = W.heap.size) (cs : Array Value) (t : Nat) : Blk (W.alloc (.cells cs t)) g cs t := by subst hg; exact Blk.new W cs t
theorem Blk.lt {W : World} {g t : Nat} {cs : Array Value} (h : Blk W g cs t) : g < W.heap.size := blk_lt h
theorem Blk.bel {W W' : World} {g t : Nat} {cs : Array Value} (h : Blk W g cs t) (hb : Bel W W') : Blk W' g cs t := (hb.block _ (blk_lt h)).trans h
theorem Blk.drew {W : World} {g t : Nat} {cs : Array Value} (h : Blk W g cs t) : Blk W.drew g cs t := h

theorem Blk.alloc {W : World} {g t : Nat} {cs : Array Value} (h : Blk W g cs t) (o : Obj) : Blk (W.alloc o) g cs t := h.bel ((Bel.refl W).alloc (Nat.le_refl _) _)
theorem Blk.cell {W : World} {g t : Nat} {cs : Array Value} (h : Blk W g cs t) (i : Nat) {u : Value} (hi : cs[i]? = some u) : W.cell? ⟨g, i, none⟩ = some u := (cell_of_row W g i cs t (0, 0) h).trans hi
theorem Blk.froz {W : World} {g t : Nat} {cs : Array Value} (h : Blk W g cs t) (i : Nat) : W.frozen? ⟨g, i, none⟩ = false := frozen_of_row W g i cs t h
theorem Blk.set {W : World} {g t : Nat} {cs : Array Value} (h : Blk W g cs t) (i : Nat) (u : Value) : Blk (W.setCell ⟨g, i, none⟩ u) g (cs.setIfInBounds i u) t := heap_set W g i t cs u h
theorem Blk.set_ne {W : World} {g j t i : Nat} {cs : Array Value} (h : Blk W g cs t) (hj : g ≠ j) (u : Value) : Blk (W.setCell ⟨j, i, none⟩ u) g cs t := (Below.heap_setCell W ⟨j, i, none⟩ u g hj).trans h
theorem Blk.cells3 {W : World} {g t : Nat} {x y z : Value} (h : Blk W g #[x, y, z] t) : W.cell? ⟨g, 0, none⟩ = some x ∧ W.cell? ⟨g, 1, none⟩ = some y ∧ W.cell? ⟨g, 2, none⟩ = some z := ⟨h.cell 0 rfl, h.cell 1 rfl, h.cell 2 rfl⟩
theorem Blk.set3 {W : World} {g t : Nat} {x y z x' y' z' : Value} (h : Blk W g #[x, y, z] t) : Blk (((W.setCell ⟨g, 0, none⟩ x').setCell ⟨g, 1, none⟩ y').setCell ⟨g, 2, none⟩ z') g #[x', y', z'] t := by
  have := ((h.set 0 x').set 1 y').set 2 z'
  exact this
theorem Blk.set3_ne {W : World} {g j t : Nat} {cs : Array Value} {x' y' z' : Value} (h : Blk W g cs t) (hj : g ≠ j) : Blk (((W.setCell ⟨j, 0, none⟩ x').setCell ⟨j, 1, none⟩ y').setCell ⟨j, 2, none⟩ z') g cs t :=
  ((h.set_ne hj _).set_ne hj _).set_ne hj _
theorem below_set {B : Nat} {a w : World} (h : Below B a w) {g i : Nat} (hg : B ≤ g) (u : Value) : Below B a (w.setCell ⟨g, i, none⟩ u) := h.setCell (p := ⟨g, i, none⟩) hg u
theorem below_set3 {B : Nat} {a w : World} (h : Below B a w) {g : Nat} (hg : B ≤ g) (x y z : Value) : Below B a (((w.setCell ⟨g, 0, none⟩ x).setCell ⟨g, 1, none⟩ y).setCell ⟨g, 2, none⟩ z) :=
  below_set (below_set (below_set h hg x) hg y) hg z
/-! cells that stay, where a world goes on -/
theorem kc {w w' : World} {g i : Nat} {u : Value} (hb : Bel w w') (h : w.cell? ⟨g, i, none⟩ = some u) : w'.cell? ⟨g, i, none⟩ = some u := (hb.cell (p := ⟨g, i, none⟩) (World.block_lt_of_cell? _ _ h)).trans h
theorem kc3 {wr w w' : World} {g : Nat} {a b c : Value} (hb : Bel w w') (hh : w.cell? ⟨g, 0, none⟩ = some a ∧ w.cell? ⟨g, 1, none⟩ = some b ∧ w.cell? ⟨g, 2, none⟩ = some c ∧ Bel wr w) :
    w'.cell? ⟨g, 0, none⟩ = some a ∧ w'.cell? ⟨g, 1, none⟩ = some b ∧ w'.cell? ⟨g, 2, none⟩ = some c ∧ Bel wr w' := by
  obtain ⟨h1, h2, h3, h7⟩ := hh
  exact ⟨kc hb h1, kc hb h2, kc hb h3, bthen h7 hb⟩
theorem kc6 {wr w w' : World} {g h : Nat} {a b c x y z : Value} (hb : Bel w w') (hh : w.cell? ⟨g, 0, none⟩ = some a ∧ w.cell? ⟨g, 1, none⟩ = some b ∧ w.cell? ⟨g, 2, none⟩ = some c ∧ w.cell? ⟨h, 0, none⟩ = some x ∧ w.cell? ⟨h, 1, none⟩ = some y ∧ w.cell? ⟨h, 2, none⟩ = some z ∧ Bel wr w) :
    w'.cell? ⟨g, 0, none⟩ = some a ∧ w'.cell? ⟨g, 1, none⟩ = some b ∧ w'.cell? ⟨g, 2, none⟩ = some c ∧ w'.cell? ⟨h, 0, none⟩ = some x ∧ w'.cell? ⟨h, 1, none⟩ = some y ∧ w'.cell? ⟨h, 2, none⟩ = some z ∧ Bel wr w' := by
  obtain ⟨h1, h2, h3, h4, h5, h6, h7⟩ := hh
  exact ⟨kc hb h1, kc hb h2, kc hb h3, kc hb h4, kc hb h5, kc hb h6, bthen h7 hb⟩

end Go.Proofs.Ytljcingmjemohaa.K
namespace Go.Proofs.Ytljcingmjemohaa.Reg
open Go Go.RowKit Go.Proofs.YtljcingmjemohaaW.PrintLast
set_option linter.unusedVariables false
set_option linter.unusedSimpArgs false

/-- Each edge leads back; the slots are apart, and there. -/
def topoB (ops : Array Oper) : Bool := (List.range ops.size).all fun i => match ops[i]? with
  | some o => o.after.all fun e => !Region.binds .any e || decide (e.on < i)
  | none => true
def slotsB (ops : Array Oper) (n : Nat) : Bool :=
  ((List.range ops.size).all fun i => match ops[i]? with
    | some o => match o.dst with
      | some d => decide (d < n) && (List.range ops.size).all fun j => match ops[j]? with
        | some o' => o'.dst != some d || i == j
        | none => true
      | none => true
    | none => true)
/-- A slot that none of the operations that come up ahead of number i writes. -/
def oldB (ops : Array Oper) (i : Nat) (d : Nat) : Bool := (List.range ops.size).all fun k => match ops[k]? with
  | some o => o.dst != some d || k == i || Region.reachB .any ops i ops.size k
  | none => true
/-- A slot that no operation writes. -/
def freeB (ops : Array Oper) (d : Nat) : Bool := ops.toList.all fun o => o.dst != some d

section
variable {P : Program} {ops : Array Oper} {Q : Exit → Act → World → Prop}

structure Held (ops : Array Oper) (a0 : Act) (R : Nat → Value → World → Prop) (l : Array Bool) (a : Act) (W : World) : Prop where
  size : a.tmps.size = a0.tmps.size
  defers : a.defers = a0.defers
  len : l.size = ops.size
  closed : ListedClosed .any ops l
  got : ∀ (j : Nat) (oj : Oper) (d : Tmp), ops[j]? = some oj → oj.dst = some d → l.getD j false = true → R j (a.tmps.getD d undef) W
  did : ∀ (j : Nat) (oj : Oper), ops[j]? = some oj → oj.dst = none → l.getD j false = true → ∃ v, R j v W
  old : ∀ d : Nat, (∀ (j : Nat) (oj : Oper), ops[j]? = some oj → l.getD j false = true → oj.dst ≠ some d) → a.tmps.getD d undef = a0.tmps.getD d undef

/-- What number i's step owes. -/
def Ob (P : Program) (ops : Array Oper) (Q : Exit → Act → World → Prop) (Ext : World → World → Prop) (R : Nat → Value → World → Prop) (i : Nat) (o : Oper) (a : Act) (W : World) : Prop :=
  if Region.wanted o (yielded ops a.tmps) then o.wp P a W (fun a' W' => ∃ v, a' = a.put o.dst v ∧ Ext W W' ∧ R i v W') Q else R i undef W

theorem slots_lt {n : Nat} (h : slotsB ops n = true) {i : Nat} {o : Oper} {d : Tmp} (hi : ops[i]? = some o) (hd : o.dst = some d) : d < n := by
  have hlt : i < ops.size := (Array.getElem?_eq_some_iff.1 hi).1
  have h1 := List.all_eq_true.1 h i (List.mem_range.2 hlt)
  simp only [hi, hd, Bool.and_eq_true, decide_eq_true_eq] at h1
  exact h1.1
theorem slots_inj {n : Nat} (h : slotsB ops n = true) {i j : Nat} {o o' : Oper} {d : Tmp} (hi : ops[i]? = some o) (hd : o.dst = some d) (hj : ops[j]? = some o') (hd' : o'.dst = some d) : i = j := by
  have hlt : i < ops.size := (Array.getElem?_eq_some_iff.1 hi).1
  have hlt' : j < ops.size := (Array.getElem?_eq_some_iff.1 hj).1
  have h1 := List.all_eq_true.1 h i (List.mem_range.2 hlt)
  simp only [hi, hd, Bool.and_eq_true, decide_eq_true_eq] at h1
  have h2 := List.all_eq_true.1 h1.2 j (List.mem_range.2 hlt')
  simp only [hj, hd', bne_self_eq_false, Bool.false_or, beq_iff_eq] at h2
  exact h2
theorem getD_put {a : Act} {d d' : Tmp} {v : Value} : (a.put (some d) v).tmps.getD d' undef = if d' = d ∧ d < a.tmps.size then v else a.tmps.getD d' undef := by
  simp only [Act.put, Array.getD_eq_getD_getElem?, Array.getElem?_setIfInBounds]
  by_cases h : d = d'
  · subst h
    by_cases hs : d < a.tmps.size
    · simp [hs]
    · simp [hs]
  · rw [if_neg h, if_neg (fun hh => h hh.1.symm)]

/-- One step keeps what is held. -/
theorem Held.step {a0 a : Act} {R : Nat → Value → World → Prop} {Ext : World → World → Prop} {l : Array Bool} {W W' : World} {i : Nat} {oi : Oper} {v : Value}
    (hs : slotsB ops a0.tmps.size = true) (hR : ∀ j v W W', Ext W W' → R j v W → R j v W') (h : Held ops a0 R l a W) (hi : i ∈ Region.ready .any ops l) (hoi : ops[i]? = some oi) (hE : Ext W W') (hv : R i v W') :
    Held ops a0 R (l.setIfInBounds i true) (a.put oi.dst v) W' := by
  have hlt : i < ops.size := (Array.getElem?_eq_some_iff.1 hoi).1
  have hset : ∀ j, (l.setIfInBounds i true).getD j false = true → j = i ∨ l.getD j false = true := by
    intro j hj
    simp only [Array.getD_eq_getD_getElem?, Array.getElem?_setIfInBounds] at hj ⊢
    by_cases e : i = j
    · exact .inl e.symm
    · rw [if_neg e] at hj; exact .inr hj
  refine ⟨?_, ?_, by simp [h.len], h.closed.set hi, ?_, ?_, ?_⟩
  · cases oi.dst <;> simp [Act.put, h.size]
  · cases oi.dst <;> simp [Act.put, h.defers]
  · intro j oj d hj hd hl
    by_cases e : j = i
    · subst e
      obtain rfl : oj = oi := Option.some.inj (hj.symm.trans hoi)
      rw [hd, getD_put, if_pos ⟨rfl, by rw [h.size]; exact slots_lt hs hj hd⟩]
      exact hv
    · have hlj : l.getD j false = true := (hset j hl).resolve_left e
      have hold := hR j _ _ _ hE (h.got j oj d hj hd hlj)
      cases hdi : oi.dst with
      | none => exact hold
      | some d' =>
        rw [getD_put, if_neg (fun hh => e (slots_inj hs hj hd hoi (by rw [hdi, hh.1])))]
        exact hold
  · intro j oj hj hd hl
    by_cases e : j = i
    · subst e
      exact ⟨v, hv⟩
    · obtain ⟨u, hu⟩ := h.did j oj hj hd ((hset j hl).resolve_left e)
      exact ⟨u, hR j _ _ _ hE hu⟩
  · intro d hd
    have h1 : a.tmps.getD d undef = a0.tmps.getD d undef := h.old d (fun j oj hj hl => hd j oj hj (by
      simp only [Array.getD_eq_getD_getElem?, Array.getElem?_setIfInBounds] at hl ⊢
      by_cases e : i = j
      · subst e
        rw [if_pos rfl, h.len, if_pos hlt]
        rfl
      · rw [if_neg e]; exact hl))
    cases hdi : oi.dst with
    | none => exact h1
    | some d' =>
      rw [getD_put, if_neg, h1]
      rintro ⟨rfl, _⟩
      refine hd i oi hoi ?_ hdi
      simp only [Array.getD_eq_getD_getElem?, Array.getElem?_setIfInBounds]
      rw [if_pos trivial, h.len, if_pos hlt]
      rfl

theorem ready_nil (ht : topoB ops = true) {l : Array Bool} (hlen : l.size = ops.size) (h : Region.ready .any ops l = []) : ∀ i, i < ops.size → l.getD i false = true := by
  intro i
  induction i using Nat.strongRecOn with
  | ind i ih =>
    intro hi
    rcases hb : l.getD i false with _ | _
    · exfalso
      have hoi : ops[i]? = some ops[i] := Array.getElem?_eq_getElem hi
      have : i ∈ Region.ready .any ops l := by
        refine mem_ready.2 ⟨?_, ops[i], hoi, ?_⟩
        · simp only [Array.getD_eq_getD_getElem?] at hb ⊢
          rw [Array.getElem?_eq_getElem (by omega)] at hb ⊢
          exact hb
        · intro e he hbi
          have h1 := List.all_eq_true.1 ht i (List.mem_range.2 hi)
          simp only [hoi] at h1
          have h2 := Array.all_eq_true_iff_forall_mem.1 h1 e he
          rw [hbi, Bool.not_true, Bool.false_or, decide_eq_true_eq] at h2
          exact ih e.on h2 (by omega)
      rw [h] at this
      cases this
    · rfl
def missing (n : Nat) (l : Array Bool) : Nat := (List.range n).countP fun j => !l.getD j false
theorem missing_set {n i : Nat} {l : Array Bool} (hi : i < n) (hl : l.size = n) (hb : l.getD i true = false) : missing n (l.setIfInBounds i true) + 1 ≤ missing n l := by
  unfold missing
  have hsplit : List.range n = List.range i ++ i :: (List.range (n - i - 1)).map (i + 1 + ·) := by
    have h1 := @List.range_add i (n - i)
    rw [show i + (n - i) = n by omega] at h1
    have h2 : n - i = (n - i - 1) + 1 := by omega
    rw [h1]
    congr 1
    rw [h2, List.range_succ_eq_map, List.map_cons, List.map_map]
    simp only [Nat.add_zero, List.cons.injEq, true_and, Nat.add_sub_cancel]
    apply List.map_congr_left
    intro x _
    simp only [Function.comp]
    omega
  have hset : ∀ j, j ≠ i → (l.setIfInBounds i true).getD j false = l.getD j false := by
    intro j hj
    simp only [Array.getD_eq_getD_getElem?, Array.getElem?_setIfInBounds]
    rw [if_neg (fun e => hj e.symm)]
  have hii : (l.setIfInBounds i true).getD i false = true := by
    simp only [Array.getD_eq_getD_getElem?, Array.getElem?_setIfInBounds]
    rw [if_pos trivial, if_pos (by omega)]; rfl
  have hif : l.getD i false = false := by
    simp only [Array.getD_eq_getD_getElem?] at hb ⊢
    rw [Array.getElem?_eq_getElem (by omega)] at hb ⊢
    exact hb
  rw [hsplit, List.countP_append, List.countP_append, List.countP_cons, List.countP_cons, hii, hif]
  have c1 : List.countP (fun j => !(l.setIfInBounds i true).getD j false) (List.range i) = List.countP (fun j => !l.getD j false) (List.range i) := by
    apply List.countP_congr
    intro x hx
    rw [hset x (by have := List.mem_range.1 hx; omega)]
  have c2 : List.countP (fun j => !(l.setIfInBounds i true).getD j false) ((List.range (n - i - 1)).map (i + 1 + ·)) = List.countP (fun j => !l.getD j false) ((List.range (n - i - 1)).map (i + 1 + ·)) := by
    apply List.countP_congr
    intro x hx
    obtain ⟨y, _, rfl⟩ := List.mem_map.1 hx
    rw [hset _ (by omega)]
  rw [c1, c2]
  simp
  omega

theorem any_mono {a0 : Act} {R : Nat → Value → World → Prop} {Ext : World → World → Prop} {E : World → Prop} (ht : topoB ops = true) (hs : slotsB ops a0.tmps.size = true)
    (hEx : ∀ W W', E W → Ext W W' → E W') (hxr : ∀ W, Ext W W) (hR : ∀ j v W W', Ext W W' → R j v W → R j v W')
    (hstep : ∀ (i : Nat) (oi : Oper), ops[i]? = some oi → ∀ (a : Act) (W : World), E W →
      (∀ (j : Nat) (oj : Oper) (d : Tmp), ops[j]? = some oj → oj.dst = some d → (oi.after.any fun e => Region.binds .any e && e.on == j) = true → R j (a.tmps.getD d undef) W) →
      (∀ d : Nat, oldB ops i d = true → a.tmps.getD d undef = a0.tmps.getD d undef) → Ob P ops Q Ext R i oi a W)
    (hend : ∀ (a : Act) (W : World), E W → a.tmps.size = a0.tmps.size → a.defers = a0.defers → (∀ (j : Nat) (oj : Oper) (d : Tmp), ops[j]? = some oj → oj.dst = some d → R j (a.tmps.getD d undef) W) →
      (∀ d : Nat, freeB ops d = true → a.tmps.getD d undef = a0.tmps.getD d undef) → (∀ (j : Nat) (oj : Oper), ops[j]? = some oj → oj.dst = none → ∃ v, R j v W) → Q .normal a W) :
    ∀ (fuel : Nat) (l : Array Bool) (a : Act) (W : World), missing ops.size l ≤ fuel → E W → Held ops a0 R l a W → wpAny P .any ops Q fuel l a W := by
  have fin : ∀ (l : Array Bool) (a : Act) (W : World), E W → Held ops a0 R l a W → Region.ready .any ops l = [] → Q .normal a W := by
    intro l a W hE hH hr
    have hall := ready_nil ht hH.len hr
    refine hend a W hE hH.size hH.defers (fun j oj d hj hd => hH.got j oj d hj hd (hall j (Array.getElem?_eq_some_iff.1 hj).1)) (fun d hd => hH.old d (fun j oj hj _ he => ?_)) (fun j oj hj hd => hH.did j oj hj hd (hall j (Array.getElem?_eq_some_iff.1 hj).1))
    have := List.all_eq_true.1 hd oj (by obtain ⟨h1, h2⟩ := Array.getElem?_eq_some_iff.1 hj; rw [← h2]; simp)
    rw [he] at this
    simp at this
  intro fuel
  induction fuel with
  | zero =>
    intro l a W hm hE hH
    have hr : Region.ready .any ops l = [] := by
      rw [List.eq_nil_iff_forall_not_mem]
      intro i hi
      obtain ⟨hb, oi, hoi, _⟩ := mem_ready.1 hi
      have := missing_set (Array.getElem?_eq_some_iff.1 hoi).1 hH.len hb
      omega
    exact ⟨hr, fin l a W hE hH hr⟩
  | succ fuel ih =>
    intro l a W hm hE hH
    refine ⟨fin l a W hE hH, fun i hi => ?_⟩
    obtain ⟨hb, oi, hoi, hall⟩ := mem_ready.1 hi
    have hlt := (Array.getElem?_eq_some_iff.1 hoi).1
    have hmiss := missing_set hlt hH.len hb
    have hob := hstep i oi hoi a W hE (fun j oj d hj hd hn => by
      rw [← Array.any_toList] at hn
      obtain ⟨e, he, hx⟩ := List.any_eq_true.1 hn
      have he := Array.mem_toList_iff.1 he
      simp only [Bool.and_eq_true, beq_iff_eq] at hx
      have := hall e he hx.1
      rw [hx.2] at this
      exact hH.got j oj d hj hd this) (fun d hd => hH.old d (fun j oj hj hl he => by
        have h1 := List.all_eq_true.1 hd j (List.mem_range.2 (Array.getElem?_eq_some_iff.1 hj).1)
        simp only [hj, he, bne_self_eq_false, Bool.false_or, Bool.or_eq_true, beq_iff_eq] at h1
        have hif : l.getD i false = false := by
          simp only [Array.getD_eq_getD_getElem?] at hb ⊢
          rw [Array.getElem?_eq_getElem (by have := hH.len; omega)] at hb ⊢
          exact hb
        rcases h1 with h1 | h1
        · subst h1
          rw [hif] at hl
          cases hl
        · have := Region.reach_listed hH.closed _ _ h1 hl
          rw [hif] at this
          cases this))
    unfold wpOp
    rw [hoi]
    unfold Ob at hob
    simp only
    split
    · rename_i hw
      rw [if_pos hw] at hob
      refine .inl (Oper.wp_mono ?_ hob)
      rintro a' W' ⟨v, rfl, hx, hv⟩
      exact ih _ _ _ (by omega) (hEx _ _ hE hx) (hH.step hs hR hi hoi hx hv)
    · rename_i hw
      rw [if_neg hw] at hob
      exact ih _ _ _ (by omega) hE (hH.step hs hR hi hoi (hxr W) hob)

/-- THE LAW: a region that draws its order. -/
theorem region_mono {id : Nat} {a0 : Act} {w : World} {R : Nat → Value → World → Prop} {Ext : World → World → Prop} (E : World → Prop) (hm : P.follows .mixedOrders = true) (ht : topoB ops = true) (hs : slotsB ops a0.tmps.size = true)
    (h0 : E w.drew) (hEx : ∀ W W', E W → Ext W W' → E W') (hxr : ∀ W, Ext W W) (hR : ∀ j v W W', Ext W W' → R j v W → R j v W')
    (hstep : ∀ (i : Nat) (oi : Oper), ops[i]? = some oi → ∀ (a : Act) (W : World), E W →
      (∀ (j : Nat) (oj : Oper) (d : Tmp), ops[j]? = some oj → oj.dst = some d → (oi.after.any fun e => Region.binds .any e && e.on == j) = true → R j (a.tmps.getD d undef) W) →
      (∀ d : Nat, oldB ops i d = true → a.tmps.getD d undef = a0.tmps.getD d undef) → Ob P ops Q Ext R i oi a W)
    (hend : ∀ (a : Act) (W : World), E W → a.tmps.size = a0.tmps.size → a.defers = a0.defers → (∀ (j : Nat) (oj : Oper) (d : Tmp), ops[j]? = some oj → oj.dst = some d → R j (a.tmps.getD d undef) W) →
      (∀ d : Nat, freeB ops d = true → a.tmps.getD d undef = a0.tmps.getD d undef) → (∀ (j : Nat) (oj : Oper), ops[j]? = some oj → oj.dst = none → ∃ v, R j v W) → Q .normal a W) :
    (Code.region id ops true).wp P Q a0 w := by
  refine wp_region_any hm ?_
  refine any_mono ht hs hEx hxr hR hstep hend ops.size _ a0 _ ?_ h0 ⟨rfl, rfl, by simp, ?_, ?_, ?_, fun _ _ => rfl⟩
  · unfold missing
    refine Nat.le_trans (List.countP_le_length) (by simp)
  · intro j oj hj hl
    simp only [Array.getD_eq_getD_getElem?, Array.getElem?_replicate] at hl
    split at hl <;> cases hl
  · intro j oj d hj hd hl
    simp only [Array.getD_eq_getD_getElem?, Array.getElem?_replicate] at hl
    split at hl <;> cases hl
  · intro j oj hj hd hl
    simp only [Array.getD_eq_getD_getElem?, Array.getElem?_replicate] at hl
    split at hl <;> cases hl

/-! ### one operation -/
theorem eval_const (a : Act) (v : Value) : a.eval (.const v) = v := rfl
theorem eval_tmp (a : Act) (t : Tmp) : a.eval (.tmp t) = a.tmps.getD t undef := rfl
section
variable {Ext : World → World → Prop} {R : Nat → Value → World → Prop} {i : Nat} {o : Oper} {a : Act} {W : World}
theorem ob_plain (hg : o.guard = none) (h : o.wp P a W (fun a' W' => ∃ v, a' = a.put o.dst v ∧ Ext W W' ∧ R i v W') Q) : Ob P ops Q Ext R i o a W := by
  unfold Ob
  rw [if_pos (by simp [Region.wanted, hg])]
  exact h
theorem yielded_of {g : Nat} {og : Oper} {d : Tmp} {b : Bool} (hog : ops[g]? = some og) (hd : og.dst = some d) (hv : a.eval (.tmp d) = .bool b) : yielded ops a.tmps g = some b := by
  unfold yielded
  rw [hog]
  simp only [Option.bind_some, hd]
  simp only [Act.eval, Array.getD_eq_getD_getElem?] at hv
  cases h : a.tmps[d]? with
  | none => rw [h] at hv; simp [undef] at hv
  | some x => rw [h] at hv; simp at hv; subst hv; rfl
theorem yielded_undef {g : Nat} {og : Oper} {d : Tmp} (hog : ops[g]? = some og) (hd : og.dst = some d) (hv : a.eval (.tmp d) = undef) : yielded ops a.tmps g = none := by
  unfold yielded
  rw [hog]
  simp only [Option.bind_some, hd]
  simp only [Act.eval, Array.getD_eq_getD_getElem?] at hv
  cases h : a.tmps[d]? with
  | none => rfl
  | some x => rw [h] at hv; simp at hv; subst hv; rfl
theorem ob_yes {g : Nat} {og : Oper} {d : Tmp} {b : Bool} (hg : o.guard = some (g, b)) (hog : ops[g]? = some og) (hd : og.dst = some d) (hv : a.eval (.tmp d) = .bool b)
    (h : o.wp P a W (fun a' W' => ∃ v, a' = a.put o.dst v ∧ Ext W W' ∧ R i v W') Q) : Ob P ops Q Ext R i o a W := by
  unfold Ob
  rw [if_pos (by simp only [Region.wanted, hg]; rw [yielded_of hog hd hv]; simp)]
  exact h
theorem ob_no {g : Nat} {og : Oper} {d : Tmp} {b b' : Bool} (hg : o.guard = some (g, b)) (hog : ops[g]? = some og) (hd : og.dst = some d) (hv : a.eval (.tmp d) = .bool b') (hb : b' ≠ b)
    (h : R i undef W) : Ob P ops Q Ext R i o a W := by
  unfold Ob
  rw [if_neg]
  · exact h
  · simp only [Region.wanted, hg]
    rw [yielded_of hog hd hv]
    simpa using hb
theorem ob_off {g : Nat} {og : Oper} {d : Tmp} {b : Bool} (hg : o.guard = some (g, b)) (hog : ops[g]? = some og) (hd : og.dst = some d) (hv : a.eval (.tmp d) = undef)
    (h : R i undef W) : Ob P ops Q Ext R i o a W := by
  unfold Ob
  rw [if_neg]
  · exact h
  · simp only [Region.wanted, hg]
    rw [yielded_undef hog hd hv]
    simp
theorem wp_val {K : Act → World → Prop} {v : Value} {W' : World} (hrun : (execOp a.eval o).run P W = .ok (.value v) W') (h : K (a.put o.dst v) W') : o.wp P a W K Q := by
  unfold Oper.wp
  rw [hrun]
  exact h
theorem wp_skip {K : Act → World → Prop} {W' : World} (hrun : (execOp a.eval o).run P W = .ok .skip W') (h : K (a.put o.dst undef) W') : o.wp P a W K Q := by
  unfold Oper.wp
  rw [hrun]
  exact h
theorem wp_call {K : Act → World → Prop} {f : FuncId} {args : Array Value} (hrun : (execOp a.eval o).run P W = .ok (.enter f args) W)
    (h : Calls P f args W fun e W' => ∃ v, e = .returned v ∧ K (a.put o.dst v) W') : o.wp P a W K Q := by
  unfold Oper.wp
  rw [hrun]
  refine Calls.mono h ?_
  rintro e W' ⟨v, rfl, hk⟩
  exact hk
end

theorem foldl_sets_size (vs : Nat → Value) (ds : List Nat) : ∀ t : Array Value, (ds.foldl (fun t d => t.setIfInBounds d (vs d)) t).size = t.size := by
  induction ds with
  | nil => intro t; rfl
  | cons d ds ih => intro t; rw [List.foldl_cons, ih]; simp
theorem foldl_sets_get (vs : Nat → Value) (ds : List Nat) : ∀ (t : Array Value) (i : Nat), (ds.foldl (fun t d => t.setIfInBounds d (vs d)) t)[i]? = if i ∈ ds ∧ i < t.size then some (vs i) else t[i]? := by
  induction ds with
  | nil => intro t i; simp
  | cons d ds ih =>
    intro t i
    rw [List.foldl_cons, ih]
    by_cases h1 : i ∈ ds
    · by_cases h2 : i < t.size
      · rw [if_pos ⟨h1, by simpa using h2⟩, if_pos ⟨by simp [h1], h2⟩]
      · rw [if_neg (by simp; omega), if_neg (by omega), Array.getElem?_setIfInBounds]
        split
        · rw [if_neg (by omega), Array.getElem?_eq_none (by omega)]
        · rfl
    · rw [if_neg (fun h => h1 h.1), Array.getElem?_setIfInBounds]
      by_cases h3 : d = i
      · subst h3
        by_cases h2 : d < t.size
        · rw [if_pos rfl, if_pos h2, if_pos ⟨by simp, h2⟩]
        · rw [if_pos rfl, if_neg h2, if_neg (fun h => h2 h.2), Array.getElem?_eq_none (by omega)]
      · rw [if_neg h3, if_neg (fun h => by simp only [List.mem_cons] at h; exact h.1.elim (fun h4 => h3 h4.symm) h1)]
/-- Behind the region: the frame, written out again. -/
theorem act_of {a a0 : Act} (ds : List Nat) (hs : a.tmps.size = a0.tmps.size) (hd : a.defers = a0.defers) (same : ∀ d : Nat, freeB ops d = true → a.tmps.getD d undef = a0.tmps.getD d undef)
    (hall : ((List.range a0.tmps.size).all fun d => freeB ops d || ds.contains d) = true) : a = { tmps := ds.foldl (fun t d => t.setIfInBounds d (a.tmps.getD d undef)) a0.tmps, defers := a0.defers } := by
  obtain ⟨t, df⟩ := a
  simp only at hs hd
  subst hd
  congr 1
  apply Array.ext_getElem?
  intro i
  rw [foldl_sets_get (fun d => t.getD d undef)]
  by_cases hi : i < a0.tmps.size
  · have h1 := List.all_eq_true.1 hall i (List.mem_range.2 hi)
    simp only [Bool.or_eq_true] at h1
    by_cases h2 : i ∈ ds
    · rw [if_pos ⟨h2, hi⟩, Array.getD_eq_getD_getElem?, Array.getElem?_eq_getElem (show i < t.size by omega)]
      rfl
    · rw [if_neg (fun h => h2 h.1)]
      have hf := same i (h1.resolve_right (by simpa using h2))
      simp only [Array.getD_eq_getD_getElem?] at hf
      rw [Array.getElem?_eq_getElem (show i < t.size by omega), Array.getElem?_eq_getElem hi] at hf ⊢
      simpa using hf
  · rw [if_neg (fun h => hi h.2), Array.getElem?_eq_none (by omega), Array.getElem?_eq_none (by omega)]
end
end Go.Proofs.Ytljcingmjemohaa.Reg
namespace Go.Proofs.Ytljcingmjemohaa.Reg
open Go Go.RowKit Go.Proofs.YtljcingmjemohaaW.PrintLast
set_option linter.unusedVariables false
set_option linter.unusedSimpArgs false
/-- What is done, and one more. -/
def mark (m : Nat → Bool) (i : Nat) : Nat → Bool := fun j => if j = i then true else m j
section
variable {P : Program} {ops : Array Oper} {Q : Exit → Act → World → Prop}
def Ob2 (P : Program) (ops : Array Oper) (Q : Exit → Act → World → Prop) (Ext : Nat → World → World → Prop) (R : Nat → Value → World → Prop) (i : Nat) (o : Oper) (a : Act) (W : World) (G : World → Prop) : Prop :=
  if Region.wanted o (yielded ops a.tmps) then o.wp P a W (fun a' W' => ∃ v, a' = a.put o.dst v ∧ Ext i W W' ∧ R i v W' ∧ G W') Q else R i undef W ∧ G W
structure Held2 (ops : Array Oper) (a0 : Act) (kills : List (Nat × Nat)) (R : Nat → Value → World → Prop) (l : Array Bool) (a : Act) (W : World) : Prop where
  size : a.tmps.size = a0.tmps.size
  defers : a.defers = a0.defers
  len : l.size = ops.size
  closed : ListedClosed .any ops l
  got : ∀ (j : Nat) (oj : Oper) (d : Tmp), ops[j]? = some oj → oj.dst = some d → l.getD j false = true → (∀ i, kills.contains (i, j) = true → l.getD i false = false) → R j (a.tmps.getD d undef) W
  did : ∀ (j : Nat) (oj : Oper), ops[j]? = some oj → oj.dst = none → l.getD j false = true → (∀ i, kills.contains (i, j) = true → l.getD i false = false) → ∃ v, R j v W
  old : ∀ d : Nat, (∀ (j : Nat) (oj : Oper), ops[j]? = some oj → l.getD j false = true → oj.dst ≠ some d) → a.tmps.getD d undef = a0.tmps.getD d undef

/-- One step keeps what is held. -/
theorem Held2.step {a0 a : Act} {R : Nat → Value → World → Prop} {Ext : Nat → World → World → Prop} {kills : List (Nat × Nat)} {l : Array Bool} {W W' : World} {i : Nat} {oi : Oper} {v : Value}
    (hs : slotsB ops a0.tmps.size = true) (hR : ∀ i j v W W', i ≠ j → kills.contains (i, j) = false → Region.reachB .any ops i ops.size j = false → Ext i W W' → R j v W → R j v W') (h : Held2 ops a0 kills R l a W) (hi : i ∈ Region.ready .any ops l) (hoi : ops[i]? = some oi) (hE : Ext i W W') (hv : R i v W') :
    Held2 ops a0 kills R (l.setIfInBounds i true) (a.put oi.dst v) W' := by
  have hlt : i < ops.size := (Array.getElem?_eq_some_iff.1 hoi).1
  have hset : ∀ j, (l.setIfInBounds i true).getD j false = true → j = i ∨ l.getD j false = true := by
    intro j hj
    simp only [Array.getD_eq_getD_getElem?, Array.getElem?_setIfInBounds] at hj ⊢
    by_cases e : i = j
    · exact .inl e.symm
    · rw [if_neg e] at hj; exact .inr hj
  have hfar : ∀ j, l.getD j false = true → Region.reachB .any ops i ops.size j = false := fun j hj => by
    rcases hq : Region.reachB .any ops i ops.size j with _ | _
    · rfl
    · have h1 := Region.reach_listed h.closed _ _ hq hj
      have h2 := (mem_ready.1 hi).1
      simp only [Array.getD_eq_getD_getElem?] at h1 h2
      rw [Array.getElem?_eq_getElem (by rw [h.len]; exact hlt)] at h1 h2
      simp only [Option.getD_some] at h1 h2
      rw [h1] at h2
      cases h2
  have hkeep : ∀ j, l.getD j false = true → (l.setIfInBounds i true).getD j false = true := by
    intro j hj
    simp only [Array.getD_eq_getD_getElem?, Array.getElem?_setIfInBounds] at hj ⊢
    by_cases e : i = j
    · subst e; rw [if_pos rfl, if_pos (by rw [h.len]; exact hlt)]; rfl
    · rw [if_neg e]; exact hj
  have hself : (l.setIfInBounds i true).getD i false = true := by
    simp only [Array.getD_eq_getD_getElem?, Array.getElem?_setIfInBounds]
    rw [if_pos trivial, if_pos (by rw [h.len]; exact hlt)]; rfl
  refine ⟨?_, ?_, by simp [h.len], h.closed.set hi, ?_, ?_, ?_⟩
  · cases oi.dst <;> simp [Act.put, h.size]
  · cases oi.dst <;> simp [Act.put, h.defers]
  · intro j oj d hj hd hl hk
    have hk2 : ∀ i', kills.contains (i', j) = true → l.getD i' false = false := fun i' h' => by
      have := hk i' h'
      rcases hq : l.getD i' false with _ | _
      · rfl
      · rw [hkeep i' hq] at this; cases this
    have hki : kills.contains (i, j) = false := by
      rcases hq : kills.contains (i, j) with _ | _
      · rfl
      · have := hk i hq; rw [hself] at this; cases this
    by_cases e : j = i
    · subst e
      obtain rfl : oj = oi := Option.some.inj (hj.symm.trans hoi)
      rw [hd, getD_put, if_pos ⟨rfl, by rw [h.size]; exact slots_lt hs hj hd⟩]
      exact hv
    · have hlj : l.getD j false = true := (hset j hl).resolve_left e
      have hold := hR i j _ _ _ (fun h => e h.symm) hki (hfar j hlj) hE (h.got j oj d hj hd hlj hk2)
      cases hdi : oi.dst with
      | none => exact hold
      | some d' =>
        rw [getD_put, if_neg (fun hh => e (slots_inj hs hj hd hoi (by rw [hdi, hh.1])))]
        exact hold
  · intro j oj hj hd hl hk
    have hk2 : ∀ i', kills.contains (i', j) = true → l.getD i' false = false := fun i' h' => by
      have := hk i' h'
      rcases hq : l.getD i' false with _ | _
      · rfl
      · rw [hkeep i' hq] at this; cases this
    have hki : kills.contains (i, j) = false := by
      rcases hq : kills.contains (i, j) with _ | _
      · rfl
      · have := hk i hq; rw [hself] at this; cases this
    by_cases e : j = i
    · subst e
      exact ⟨v, hv⟩
    · obtain ⟨u, hu⟩ := h.did j oj hj hd ((hset j hl).resolve_left e) hk2
      exact ⟨u, hR i j _ _ _ (fun h => e h.symm) hki (hfar j ((hset j hl).resolve_left e)) hE hu⟩
  · intro d hd
    have h1 : a.tmps.getD d undef = a0.tmps.getD d undef := h.old d (fun j oj hj hl => hd j oj hj (by
      simp only [Array.getD_eq_getD_getElem?, Array.getElem?_setIfInBounds] at hl ⊢
      by_cases e : i = j
      · subst e
        rw [if_pos rfl, h.len, if_pos hlt]
        rfl
      · rw [if_neg e]; exact hl))
    cases hdi : oi.dst with
    | none => exact h1
    | some d' =>
      rw [getD_put, if_neg, h1]
      rintro ⟨rfl, _⟩
      refine hd i oi hoi ?_ hdi
      simp only [Array.getD_eq_getD_getElem?, Array.getElem?_setIfInBounds]
      rw [if_pos trivial, h.len, if_pos hlt]
      rfl

theorem any_gen (kills : List (Nat × Nat)) {a0 : Act} {R : Nat → Value → World → Prop} {Ext : Nat → World → World → Prop} {E : (Nat → Bool) → World → Prop} (ht : topoB ops = true) (hs : slotsB ops a0.tmps.size = true)
    (hxr : ∀ i W, Ext i W W) (hR : ∀ i j v W W', i ≠ j → kills.contains (i, j) = false → Region.reachB .any ops i ops.size j = false → Ext i W W' → R j v W → R j v W')
    (hstep : ∀ (i : Nat) (oi : Oper), ops[i]? = some oi → ∀ (a : Act) (W : World) (m : Nat → Bool), E m W → m i = false → (∀ j, (oi.after.any fun e => Region.binds .any e && e.on == j) = true → m j = true) →
      (∀ (j : Nat) (oj : Oper) (d : Tmp), ops[j]? = some oj → oj.dst = some d → (oi.after.any fun e => Region.binds .any e && e.on == j) = true → (kills.all fun p => p.2 != j || p.1 == i) = true → R j (a.tmps.getD d undef) W) →
      (∀ d : Nat, oldB ops i d = true → a.tmps.getD d undef = a0.tmps.getD d undef) → Ob2 P ops Q Ext R i oi a W (E (mark m i)))
    (hend : ∀ (a : Act) (W : World) (m : Nat → Bool), E m W → (∀ j, j < ops.size → m j = true) → a.tmps.size = a0.tmps.size → a.defers = a0.defers → (∀ (j : Nat) (oj : Oper) (d : Tmp), ops[j]? = some oj → oj.dst = some d → (kills.all fun p => p.2 != j) = true → R j (a.tmps.getD d undef) W) →
      (∀ d : Nat, freeB ops d = true → a.tmps.getD d undef = a0.tmps.getD d undef) → (∀ (j : Nat) (oj : Oper), ops[j]? = some oj → oj.dst = none → (kills.all fun p => p.2 != j) = true → ∃ v, R j v W) → Q .normal a W) :
    ∀ (fuel : Nat) (l : Array Bool) (a : Act) (W : World), missing ops.size l ≤ fuel → E (fun j => l.getD j false) W → Held2 ops a0 kills R l a W → wpAny P .any ops Q fuel l a W := by
  have fin : ∀ (l : Array Bool) (a : Act) (W : World), E (fun j => l.getD j false) W → Held2 ops a0 kills R l a W → Region.ready .any ops l = [] → Q .normal a W := by
    intro l a W hE hH hr
    have hall := ready_nil ht hH.len hr
    refine hend a W _ hE (fun j hj => hall j hj) hH.size hH.defers (fun j oj d hj hd hk => hH.got j oj d hj hd (hall j (Array.getElem?_eq_some_iff.1 hj).1) (fun i hi => absurd hi (by have := List.all_eq_true.1 hk; simp only [List.contains_eq_mem, decide_eq_true_eq]; intro hm; have := this _ hm; simp at this))) (fun d hd => hH.old d (fun j oj hj _ he => ?_)) (fun j oj hj hd hk => hH.did j oj hj hd (hall j (Array.getElem?_eq_some_iff.1 hj).1) (fun i hi => absurd hi (by have := List.all_eq_true.1 hk; simp only [List.contains_eq_mem, decide_eq_true_eq]; intro hm; have := this _ hm; simp at this)))
    have := List.all_eq_true.1 hd oj (by obtain ⟨h1, h2⟩ := Array.getElem?_eq_some_iff.1 hj; rw [← h2]; simp)
    rw [he] at this
    simp at this
  intro fuel
  induction fuel with
  | zero =>
    intro l a W hm hE hH
    have hr : Region.ready .any ops l = [] := by
      rw [List.eq_nil_iff_forall_not_mem]
      intro i hi
      obtain ⟨hb, oi, hoi, _⟩ := mem_ready.1 hi
      have := missing_set (Array.getElem?_eq_some_iff.1 hoi).1 hH.len hb
      omega
    exact ⟨hr, fin l a W hE hH hr⟩
  | succ fuel ih =>
    intro l a W hm hE hH
    refine ⟨fin l a W hE hH, fun i hi => ?_⟩
    obtain ⟨hb, oi, hoi, hall⟩ := mem_ready.1 hi
    have hlt := (Array.getElem?_eq_some_iff.1 hoi).1
    have hmiss := missing_set hlt hH.len hb
    have hfalse : l.getD i false = false := by
      simp only [Array.getD_eq_getD_getElem?] at hb ⊢
      rw [Array.getElem?_eq_getElem (by have := hH.len; omega)] at hb ⊢
      exact hb
    have hpre : ∀ j, (oi.after.any fun e => Region.binds .any e && e.on == j) = true → l.getD j false = true := fun j hn => by
      rw [← Array.any_toList] at hn
      obtain ⟨e, he, hx⟩ := List.any_eq_true.1 hn
      have he := Array.mem_toList_iff.1 he
      simp only [Bool.and_eq_true, beq_iff_eq] at hx
      have := hall e he hx.1
      rwa [hx.2] at this
    have hmark : (fun j => (l.setIfInBounds i true).getD j false) = mark (fun j => l.getD j false) i := by
      funext j
      simp only [mark, Array.getD_eq_getD_getElem?, Array.getElem?_setIfInBounds]
      by_cases e : j = i
      · subst e
        rw [if_pos rfl, if_pos rfl, if_pos (by have := hH.len; omega)]; rfl
      · rw [if_neg e, if_neg (fun h => e h.symm)]
    have hob := hstep i oi hoi a W (fun j => l.getD j false) hE hfalse hpre (fun j oj d hj hd hn hkb => by
      rw [← Array.any_toList] at hn
      obtain ⟨e, he, hx⟩ := List.any_eq_true.1 hn
      have he := Array.mem_toList_iff.1 he
      simp only [Bool.and_eq_true, beq_iff_eq] at hx
      have := hall e he hx.1
      rw [hx.2] at this
      refine hH.got j oj d hj hd this (fun i' hk => ?_)
      have h1 := List.all_eq_true.1 hkb (i', j) (by simpa using hk)
      simp only [bne_self_eq_false, Bool.false_or, beq_iff_eq] at h1
      rw [h1]; exact hfalse) (fun d hd => hH.old d (fun j oj hj hl he => by
        have h1 := List.all_eq_true.1 hd j (List.mem_range.2 (Array.getElem?_eq_some_iff.1 hj).1)
        simp only [hj, he, bne_self_eq_false, Bool.false_or, Bool.or_eq_true, beq_iff_eq] at h1
        have hif : l.getD i false = false := by
          simp only [Array.getD_eq_getD_getElem?] at hb ⊢
          rw [Array.getElem?_eq_getElem (by have := hH.len; omega)] at hb ⊢
          exact hb
        rcases h1 with h1 | h1
        · subst h1
          rw [hif] at hl
          cases hl
        · have := Region.reach_listed hH.closed _ _ h1 hl
          rw [hif] at this
          cases this))
    unfold wpOp
    rw [hoi]
    unfold Ob2 at hob
    simp only
    split
    · rename_i hw
      rw [if_pos hw] at hob
      refine .inl (Oper.wp_mono ?_ hob)
      rintro a' W' ⟨v, rfl, hx, hv, hk⟩
      exact ih _ _ _ (by omega) (by rw [hmark]; exact hk) (hH.step hs hR hi hoi hx hv)
    · rename_i hw
      rw [if_neg hw] at hob
      exact ih _ _ _ (by omega) (by rw [hmark]; exact hob.2) (hH.step hs hR hi hoi (hxr i W) hob.1)

/-- THE LAW: a region that draws its order. -/
theorem region_gen (kills : List (Nat × Nat)) {id : Nat} {a0 : Act} {w : World} {R : Nat → Value → World → Prop} {Ext : Nat → World → World → Prop} (E : (Nat → Bool) → World → Prop) (hm : P.follows .mixedOrders = true) (ht : topoB ops = true) (hs : slotsB ops a0.tmps.size = true)
    (h0 : E (fun _ => false) w.drew) (hxr : ∀ i W, Ext i W W) (hR : ∀ i j v W W', i ≠ j → kills.contains (i, j) = false → Region.reachB .any ops i ops.size j = false → Ext i W W' → R j v W → R j v W')
    (hstep : ∀ (i : Nat) (oi : Oper), ops[i]? = some oi → ∀ (a : Act) (W : World) (m : Nat → Bool), E m W → m i = false → (∀ j, (oi.after.any fun e => Region.binds .any e && e.on == j) = true → m j = true) →
      (∀ (j : Nat) (oj : Oper) (d : Tmp), ops[j]? = some oj → oj.dst = some d → (oi.after.any fun e => Region.binds .any e && e.on == j) = true → (kills.all fun p => p.2 != j || p.1 == i) = true → R j (a.tmps.getD d undef) W) →
      (∀ d : Nat, oldB ops i d = true → a.tmps.getD d undef = a0.tmps.getD d undef) → Ob2 P ops Q Ext R i oi a W (E (mark m i)))
    (hend : ∀ (a : Act) (W : World) (m : Nat → Bool), E m W → (∀ j, j < ops.size → m j = true) → a.tmps.size = a0.tmps.size → a.defers = a0.defers → (∀ (j : Nat) (oj : Oper) (d : Tmp), ops[j]? = some oj → oj.dst = some d → (kills.all fun p => p.2 != j) = true → R j (a.tmps.getD d undef) W) →
      (∀ d : Nat, freeB ops d = true → a.tmps.getD d undef = a0.tmps.getD d undef) → (∀ (j : Nat) (oj : Oper), ops[j]? = some oj → oj.dst = none → (kills.all fun p => p.2 != j) = true → ∃ v, R j v W) → Q .normal a W) :
    (Code.region id ops true).wp P Q a0 w := by
  refine wp_region_any hm ?_
  refine any_gen kills ht hs hxr hR hstep hend ops.size _ a0 _ ?_ (by
    have e : (fun j => (Array.replicate ops.size false).getD j false) = fun _ => false := by
      funext j
      simp only [Array.getD_eq_getD_getElem?, Array.getElem?_replicate]
      split <;> rfl
    rw [e]
    exact h0) ⟨rfl, rfl, by simp, ?_, ?_, ?_, fun _ _ => rfl⟩
  · unfold missing
    refine Nat.le_trans (List.countP_le_length) (by simp)
  · intro j oj hj hl
    simp only [Array.getD_eq_getD_getElem?, Array.getElem?_replicate] at hl
    split at hl <;> cases hl
  · intro j oj d hj hd hl
    simp only [Array.getD_eq_getD_getElem?, Array.getElem?_replicate] at hl
    split at hl <;> cases hl
  · intro j oj hj hd hl
    simp only [Array.getD_eq_getD_getElem?, Array.getElem?_replicate] at hl
    split at hl <;> cases hl

end
section
variable {P : Program} {ops : Array Oper} {Q : Exit → Act → World → Prop} {R : Nat → Value → World → Prop} {Ext : Nat → World → World → Prop} {i : Nat} {o : Oper} {a : Act} {W : World} {G : World → Prop}
theorem ob2_plain (h : o.guard = none) (hw : o.wp P a W (fun a' W' => ∃ v, a' = a.put o.dst v ∧ Ext i W W' ∧ R i v W' ∧ G W') Q) : Ob2 P ops Q Ext R i o a W G := by
  unfold Ob2
  simp only [Region.wanted, h, if_true]
  exact hw
theorem ob2_yes {g : Nat} {og : Oper} {d : Tmp} {b : Bool} (hg : o.guard = some (g, b)) (hog : ops[g]? = some og) (hd : og.dst = some d) (hv : a.eval (.tmp d) = .bool b)
    (h : o.wp P a W (fun a' W' => ∃ v, a' = a.put o.dst v ∧ Ext i W W' ∧ R i v W' ∧ G W') Q) : Ob2 P ops Q Ext R i o a W G := by
  unfold Ob2
  rw [if_pos (by simp only [Region.wanted, hg]; rw [yielded_of hog hd hv]; simp)]
  exact h
theorem ob2_no {g : Nat} {og : Oper} {d : Tmp} {b b' : Bool} (hg : o.guard = some (g, b)) (hog : ops[g]? = some og) (hd : og.dst = some d) (hv : a.eval (.tmp d) = .bool b') (hb : b' ≠ b)
    (h : R i undef W) (h2 : G W) : Ob2 P ops Q Ext R i o a W G := by
  unfold Ob2
  rw [if_neg]
  · exact ⟨h, h2⟩
  · simp only [Region.wanted, hg]
    rw [yielded_of hog hd hv]
    simpa using hb
theorem ob2_off {g : Nat} {og : Oper} {d : Tmp} {b : Bool} (hg : o.guard = some (g, b)) (hog : ops[g]? = some og) (hd : og.dst = some d) (hv : a.eval (.tmp d) = undef)
    (h : R i undef W) (h2 : G W) : Ob2 P ops Q Ext R i o a W G := by
  unfold Ob2
  rw [if_neg]
  · exact ⟨h, h2⟩
  · simp only [Region.wanted, hg]
    rw [yielded_undef hog hd hv]
    simp
end
end Go.Proofs.Ytljcingmjemohaa.Reg
namespace Go.Proofs.Ytljcingmjemohaa.K
open Go Go.RowKit
set_option linter.unusedVariables false
theorem opV {P : Program} {w w' : World} {ops : Array Oper} {rest : List Oper} {o : Oper} {a : Act} {Q : Exit → Act → World → Prop} {v : Value} (hg : o.guard = none)
    (hrun : (execOp a.eval o).run P w = .ok (.value v) w') (h : wpList P ops Q rest (a.put o.dst v) w') : wpList P ops Q (o :: rest) a w := by
  refine wpList_plain hg fun K hK' => ?_
  unfold Oper.wp
  rw [hrun]
  exact hK' _ _ h
/-- The same, of an operation that only reads. -/
theorem opR {P : Program} {w : World} {ops : Array Oper} {rest : List Oper} {o : Oper} {a : Act} {Q : Exit → Act → World → Prop} (v : Value) (hg : o.guard = none)
    (hrun : (execOp a.eval o).run P w = .ok (.value v) w) (h : wpList P ops Q rest (a.put o.dst v) w) : wpList P ops Q (o :: rest) a w := opV hg hrun h
/-- The same, where an element is read out of an array's value. -/
theorem opIdx {P : Program} {w : World} {ops : Array Oper} {rest : List Oper} {o : Oper} {a : Act} {Q : Exit → Act → World → Prop} (v : Value) (ty : TypeId) (x y : Operand) (hg : o.guard = none) (ho : o.op = .index ty x y)
    (hrun : (execOp a.eval o).run P w = .ok (.value v) w) (h : wpList P ops Q rest (a.put o.dst v) w) : wpList P ops Q (o :: rest) a w := opV hg hrun h
/-- A law of a walk, used at one operation of a region that draws its order. -/
theorem wp_of_list {P : Program} {ops : Array Oper} {o : Oper} {a : Act} {W : World} {K : Act → World → Prop} {Q : Exit → Act → World → Prop} (hg : o.guard = none)
    (h : wpList P ops (fun ex a w => ex = .normal ∧ K a w) [o] a W) : o.wp P a W K Q := by
  simp only [wpList, Region.wanted, hg, if_true] at h
  rcases h with h | ⟨_, a', w', h, _⟩
  · unfold Oper.wp at *
    generalize (execOp a.eval o).run P W = r at *
    cases r with
    | ok n w' =>
      cases n <;> simp only [Oper.upon] at h ⊢ <;>
        first
          | exact h.2
          | exact Calls.mono h (fun e w'' he => by
              cases e
              · exact he.2
              · exact absurd he.1 (by simp)
              · obtain ⟨_, _, he, _⟩ := he; cases he)
          | exact Rows.mono h (fun _ _ he => he.2)
    | halt x w' =>
      cases x <;> simp only [Oper.upon] at h ⊢ <;> first | exact h | exact absurd h.1 (by simp)
  · cases h
end Go.Proofs.Ytljcingmjemohaa.K
