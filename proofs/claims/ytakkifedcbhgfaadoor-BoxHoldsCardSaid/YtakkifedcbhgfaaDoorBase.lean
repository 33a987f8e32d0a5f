/- Small laws for the walks of this seat: rows of bytes that a call makes, that are read, that are turned into strings. -/
import Derived.Test.YtakkifedcbhgfaaDoorProg
import Derived.Below
import Derived.Deep.Draws
import Derived.Deep.AppendLies
import Derived.Maps.AppendAt
import Derived.OwnWalk
import Derived.Laws.BytesArg
import Derived.Laws.MakeOwn
import Derived.Laws.OwnMore
import Derived.Deep.OwnRows
import Derived.Tactics
import Derived.Lib.ConvBytes
import Derived.Laws.Slices
import Derived.WalkKit
import Derived.KernelRfl
import Derived.RowKit3
import Derived.Deep.LoopGhost
import Derived.Deep.QuietTactic
import Derived.BigQuiet
import Derived.WideLaws
import Derived.Deep.DeepCutAuto
import Derived.Deep.CutBlock
import Derived.Deep.RegionHeld3
import Derived.Laws.Rows
import Derived.Lib.AppendStr
import Derived.ArgAppend
import Derived.Laws.IdiomCopy
import Derived.OrdersHeld
import Derived.Laws.BitsLemmas
import Derived.RowKit
import Derived.Lib.SliceRun
import Derived.Lib.Hide
import Derived.Outline
import Derived.IntWalk
import Derived.WalkSpells
import Derived.Test.YtakkifedcbhgfaaDoorWWords
import Derived.Test.YtakkifedcbhgfaaDoorWLast
import Derived.Test.YtakkifedcbhgfaaDoorWMore
import Derived.Test.YtakkifedcbhgfaaDoorMOct
namespace Go.Proofs.YtakkifedcbhgfaaDoor.K
open Go Go.RowKit Go.Proofs.YtakkifedcbhgfaaDoorW.PrintWords Go.Proofs.YtakkifedcbhgfaaDoorW.PrintLast Go.Proofs.YtakkifedcbhgfaaDoorW.PrintMore
set_option linter.unusedVariables false
set_option linter.unusedSimpArgs false

/-- All are bytes. -/
def bytesOk (l : List Int) : Prop := ∀ x ∈ l, 0 ≤ x ∧ x < 256
theorem bytesOk_nil : bytesOk [] := fun x hx => by simp at hx
theorem bytesOk_append {l m : List Int} (h : bytesOk l) (k : bytesOk m) : bytesOk (l ++ m) := fun x hx => by
  rcases List.mem_append.1 hx with hx | hx
  · exact h x hx
  · exact k x hx
theorem infoB : (Tryd.prog.info? 5).map (fun i => (i.zero, i.size, i.bytes)) = some (some (.int .u8 0), 1, 1) := by kernel_rfl
/-- A row of bytes that a call which began in w0 has made. -/
def RB (w0 w : World) (v : Value) (l : List Int) : Prop := Kd.R (Kd.int .u8) 5 w w0.heap.size (fun _ => True) v l
/-- A row of bytes that is read. -/
def CB (w : World) (A : Option Addr) (l : List Int) : Prop := Kd.C (Kd.int .u8) w A l.length l
theorem RB.nil (w0 w : World) : RB w0 w (.slice none 0 0) [] := Kd.R_nil _ _ _ _ _
theorem RB.drew {w0 w : World} {v : Value} {l : List Int} (h : RB w0 w v l) : RB w0 w.drew v l := Kd.R_drew h
theorem RB.drewN {w0 w : World} {v : Value} {l : List Int} (h : RB w0 w v l) (n : Nat) : RB w0 (w.drewN n) v l := Kd.R_drewN h n
theorem RB.alloc {w0 w : World} {v : Value} {l : List Int} (h : RB w0 w v l) (o : Obj) : RB w0 (w.alloc o) v l := Kd.R_alloc h o
theorem RB.below {w0 w w1 : World} {v : Value} {l : List Int} (h : RB w0 w v l) (hb : Below w.heap.size w w1) : RB w0 w1 v l := Kd.R_below h hb
theorem RB.lower {w0 w w1 : World} {v : Value} {l : List Int} (h : RB w w1 v l) (hb : w0.heap.size ≤ w.heap.size) : RB w0 w1 v l := Kd.R_lower h hb
theorem RB.reads {w0 w : World} {v : Value} {l : List Int} (h : RB w0 w v l) : ∃ A c, v = .slice A l.length c ∧ l.length ≤ c ∧ CB w A l := Kd.R_reads h
theorem CB.drew {w : World} {A : Option Addr} {l : List Int} (h : CB w A l) : CB w.drew A l := Kd.C_drew h
theorem CB.drewN {w : World} {A : Option Addr} {l : List Int} (h : CB w A l) (n : Nat) : CB (w.drewN n) A l := Kd.C_drewN h n
theorem CB.alloc {w : World} {A : Option Addr} {l : List Int} (h : CB w A l) (o : Obj) : CB (w.alloc o) A l := Kd.C_alloc h o
theorem CB.below {w w1 : World} {A : Option Addr} {l : List Int} (h : CB w A l) (hb : Below w.heap.size w w1) : CB w1 A l := Kd.C_below h hb
theorem CB.nil (w : World) : CB w none [] := Kd.C_nil _ _
theorem CB.at_ {w : World} {A : Option Addr} {l : List Int} (h : CB w A l) (i : Nat) (hi : i < l.length) : ∃ ad, A = some ad ∧ w.cell? (ad.add i) = some (.int .u8 (l.getD i 0)) := by
  obtain ⟨ad, e, hx⟩ := Kd.at_int h (i : Int) (by omega) (by omega)
  refine ⟨ad, e, ?_⟩
  rw [Int.toNat_natCast] at hx
  exact hx
/-- A literal of bytes. -/
theorem RB.lit {w0 W : World} (l : List Int) (hb : w0.heap.size ≤ W.heap.size) (hl : l.length ≤ maxLen) :
    RB w0 (W.alloc (.cells (l.map (Value.int .u8)).toArray 5)) (.slice (some ⟨W.heap.size, 0, none⟩) l.length l.length) l := by
  refine Kd.R_of_own ⟨by simp [encs], .inr ⟨W.heap.size, l.length, (l.map (Value.int .u8)).toArray, rfl, hb, heap_alloc_new W _, Nat.le_refl _, hl, by simp, ?_⟩⟩ (fun _ _ => trivial)
  simp only [encs, Nat.mul_one]
  exact List.take_of_length_le (by simp)
theorem RB.lit0 {w0 W : World} (hb : w0.heap.size ≤ W.heap.size) : RB w0 (W.alloc (.cells #[] 5)) (.slice (some ⟨W.heap.size, 0, none⟩) 0 0) [] := RB.lit [] hb (by simp)
section
variable {ops : Array Oper} {rest : List Oper} {o : Oper} {a : Act} {Q : Exit → Act → World → Prop}
/-- append(row, one byte) -/
theorem app1 {w0 W : World} (s x : Operand) (hgd : o.guard = none) (ho : o.op = .call { callee := .builtin .append, args := #[s, x], argTypes := #[75, 75] })
    (v : Value) (xs : List Int) (p : Int) (hs : a.eval s = v) (hx : a.eval x = .slice (some ⟨W.heap.size, 0, none⟩) 1 1)
    (HO : RB w0 W v xs) (HB : Below w0.heap.size w0 W) (hl : xs.length < 140737488355328)
    (h : ∀ v1 w1, Hid (RB w0 w1 v1 (xs ++ [p])) → Hid (Below w0.heap.size w0 w1) → wpList Tryd.prog ops Q rest (a.put o.dst v1) w1) :
    wpList Tryd.prog ops Q (o :: rest) a (W.alloc (.cells #[.int .u8 p] 5)) :=
  Kd.R_append (Kd.int .u8) (w0 := w0) w0.heap.size hgd s x 75 5 (.int .u8 0) 1 ho Tryd.underlying75 infoB rfl (by decide) (by omega) v xs p [.int .u8 p] (fun _ => True) (fun _ => False) hs hx rfl
    (fun _ hk => hk.elim) (fun _ _ => trivial) HO HB HB.size (by omega) (fun v1 w1 ho hb hg hat => h v1 w1 ho hb)
/-- append(row, bytes...) -/
theorem appN {w0 W : World} (s x : Operand) (hgd : o.guard = none) (ho : o.op = .call { callee := .builtin .append, args := #[s, x], argTypes := #[75, 75] })
    (v : Value) (xs ys : List Int) (A : Option Addr) (c : Nat) (hs : a.eval s = v) (hx : a.eval x = .slice A ys.length c)
    (HO : RB w0 W v xs) (HR : CB W A ys) (HB : Below w0.heap.size w0 W) (hl : xs.length + ys.length < 140737488355328)
    (h : ∀ v1 w1, Hid (RB w0 w1 v1 (xs ++ ys)) → Hid (Below w0.heap.size w0 w1) → wpList Tryd.prog ops Q rest (a.put o.dst v1) w1) :
    wpList Tryd.prog ops Q (o :: rest) a W :=
  Kd.R_append_rows (Kd.int .u8) (w0 := w0) w0.heap.size hgd s x 75 5 (.int .u8 0) 1 ho Tryd.underlying75 infoB rfl (by decide) (by omega) v xs ys A ys.length c (fun _ => True) (fun _ => False) hs hx HO HR
    (fun x cs hk => hk) (fun _ hk => hk.elim) (fun _ _ => trivial) HB HB.size (by omega) (fun v1 w1 ho hb hg hat => h v1 w1 ho hb)
end
section
variable {ops : Array Oper} {rest : List Oper} {o : Oper} {a : Act} {Q : Exit → Act → World → Prop}
/-- append(row, string...) -/
theorem appS {w0 W : World} (s x : Operand) (hgd : o.guard = none) (ho : o.op = .call { callee := .builtin .append, args := #[s, x], argTypes := #[75, 9] })
    (v : Value) (xs : List Int) (y : ByteArray) (hs : a.eval s = v) (hx : a.eval x = .string y)
    (HO : RB w0 W v xs) (HB : Below w0.heap.size w0 W) (hl : xs.length + y.size < 140737488355328)
    (h : ∀ v1 w1, Hid (RB w0 w1 v1 (xs ++ bytesOf y)) → Hid (Below w0.heap.size w0 w1) → wpList Tryd.prog ops Q rest (a.put o.dst v1) w1) :
    wpList Tryd.prog ops Q (o :: rest) a W :=
  print_append_str (w0 := w0) w0.heap.size hgd s x 75 9 5 ho Tryd.underlying75 Tryd.underlying9 infoB v xs y hs hx (Kd.own_of_R HO) HB HB.size (by omega)
    (fun v1 w1 ho hb hg => h v1 w1 (Kd.R_of_own ho (fun _ _ => trivial)) hb)
/-- make([]byte, 0, c) -/
theorem mk0 {w0 W : World} (x y : Operand) (hgd : o.guard = none) (ho : o.op = .makeSlice 75 x y) (c : Nat) (hx : a.eval x = .int .i64 0) (hy : a.eval y = .int .i64 (c : Int)) (hc : c ≤ 100000000)
    (HB : Below w0.heap.size w0 W)
    (h : ∀ v1 w1, Hid (RB w0 w1 v1 []) → Hid (Below w0.heap.size w0 w1) → wpList Tryd.prog ops Q rest (a.put o.dst v1) w1) : wpList Tryd.prog ops Q (o :: rest) a W := by
  obtain ⟨i0, hi, hzz⟩ := Option.map_eq_some_iff.1 infoB
  simp only [Prod.mk.injEq] at hzz
  obtain ⟨hz0, hz1, hz2⟩ := hzz
  have hr := run_make (P := Tryd.prog) W 75 5 i0 (.int .u8 0) Tryd.underlying75 hi hz0 .i64 .i64 0 c (Int.le_refl _) (by omega) (by rw [hz2]; omega) (by omega)
  simp only [Int.toNat_zero, Int.toNat_natCast, hz1, Nat.mul_one] at hr
  refine wpList_plain hgd fun _ hK => ?_
  unfold Oper.wp execOp
  simp only [ho, hx, hy, Sem.run_bind, Sem.run_pure, hr, Result.andThen_ok]
  exact hK _ _ (h _ _ (Kd.R_of_own (World.ownsRow_made W _ c HB.size (by simp only [maxLen]; omega) (by simp [size_madeCells])) (fun _ _ => trivial)) (HB.alloc HB.size _))
end
/-- A row that is not empty, as a slice. -/
theorem RB.form {w0 w : World} {v : Value} {l : List Int} (h : RB w0 w v l) (h0 : 0 < l.length) : ∃ g cap, v = .slice (some ⟨g, 0, none⟩) l.length cap ∧ l.length ≤ cap ∧ CB w (some ⟨g, 0, none⟩) l := by
  obtain ⟨A, c, rfl, hc, hC⟩ := h.reads
  obtain ⟨g, cap, e, _⟩ := Kd.R_form h h0
  injection e with e1 e2 e3
  subst e1
  exact ⟨g, c, rfl, hc, hC⟩
/-! worlds that go on -/
/-- Whatever was there is as it was. -/
abbrev Bel (W W' : World) : Prop := Below W.heap.size W W'
theorem Bel.refl (W : World) : Bel W W := Below.refl _ _
theorem bfrom {w w1 : World} (h : Below w.drew.heap.size w.drew w1) : Below w.heap.size w w1 := ⟨h.os, h.tape, h.output, h.size, h.block⟩
theorem bthen {a w w1 : World} (h : Below a.heap.size a w) (k : Below w.heap.size w w1) : Below a.heap.size a w1 := below_then h h.size k
theorem Bel.drew (W : World) : Bel W W.drew := (Below.refl _ _).drew
/-! strings -/
theorem RB.str {w0 w : World} {v : Value} {l : List Int} (h : RB w0 w v l) : (convert 75 9 v).run Tryd.prog w = .ok (.string (strOfNums l)) w :=
  own_string Tryd.underlying75 Tryd.underlying5 Tryd.underlying9 (Kd.own_of_R h)
theorem CB.str {w : World} {A : Option Addr} {c : Nat} {l : List Int} (h : CB w A l) : (convert 75 9 (.slice A l.length c)).run Tryd.prog w = .ok (.string (strOfNums l)) w :=
  string_of_reads Tryd.underlying75 Tryd.underlying5 Tryd.underlying9 (Kd.reads_of_C (enc := Value.int .u8) (d := (0 : Int)) (h1 := fun _ => rfl) h)
theorem CB.take {w : World} {A : Option Addr} {l : List Int} (h : CB w A l) (k : Nat) (hk : k ≤ l.length) : CB w A (l.take k) := by
  refine ⟨rfl, by have := h.2.1; rw [List.length_take]; omega, fun h0 => ?_⟩
  rw [List.length_take] at h0
  obtain ⟨ad, e, hc⟩ := h.2.2 (by omega)
  refine ⟨ad, e, fun j p hj => hc j p ?_⟩
  rw [List.getElem?_take] at hj
  split at hj
  · exact hj
  · cases hj
/-! bounds -/
def U64 (n : Int) : Prop := 0 ≤ n ∧ n < 18446744073709551616
theorem u64_wf {n : Int} (h : (Lit.int .u64 n).wf = true) : U64 n := by
  have h1 : IntKind.u64.min = 0 := rfl
  have h2 : IntKind.u64.max = 18446744073709551615 := rfl
  simp only [Lit.wf, Bool.and_eq_true, decide_eq_true_eq] at h
  exact ⟨by omega, by omega⟩
theorem u8_wf {n : Int} (h : (Lit.int .u8 n).wf = true) : 0 ≤ n ∧ n < 256 := by
  have h1 : IntKind.u8.min = 0 := rfl
  have h2 : IntKind.u8.max = 255 := rfl
  simp only [Lit.wf, Bool.and_eq_true, decide_eq_true_eq] at h
  omega
theorem bytesOk_wf {l : List Int} (h : ∀ x ∈ l, (Lit.int .u8 x).wf = true) : bytesOk l := fun x hx => u8_wf (h x hx)
/-! rows that alone have turned -/
theorem only_drew {a w : World} {row : Option Nat} (h : a.grownBy w row) : a.grownBy w.drew row := ⟨h.os, h.tape, h.output, h.size, h.block⟩
theorem only_drewN {a w : World} {row : Option Nat} (h : a.grownBy w row) (n : Nat) : a.grownBy (w.drewN n) row := ⟨h.os, h.tape, h.output, h.size, h.block⟩
theorem only_alloc {a w : World} {row : Option Nat} (h : a.grownBy w row) (o : Obj) : a.grownBy (w.alloc o) row :=
  ⟨h.os, h.tape, h.output, Nat.le_trans h.size (by simp), fun i hi hne => (Below.heap_alloc w o i (Nat.lt_of_lt_of_le hi h.size)).trans (h.block i hi hne)⟩
theorem only_setCell {a w : World} {g : Nat} (h : a.grownBy w (some g)) {p : Addr} (hp : p.block = g ∨ a.heap.size ≤ p.block) (u : Value) : a.grownBy (w.setCell p u) (some g) :=
  ⟨h.os, h.tape, h.output, by simpa [World.setCell] using h.size, fun i hi hne => (Below.heap_setCell w p u i (by
    rintro rfl
    rcases hp with hp | hp
    · exact hne (by rw [hp])
    · omega)).trans (h.block i hi hne)⟩
theorem heap_set (w : World) (g i t : Nat) (cs : Array Value) (u : Value) (h : w.heap[g]? = some (.cells cs t (0, 0))) : (w.setCell ⟨g, i, none⟩ u).heap[g]? = some (.cells (cs.setIfInBounds i u) t (0, 0)) := by
  simp [World.setCell, Array.getElem?_modify, h]
end Go.Proofs.YtakkifedcbhgfaaDoor.K
