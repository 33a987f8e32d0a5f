/- The law OctetNone, walked. -/
import Derived.Test.YtlfcgicobhalmaaBase
import Derived.Test.YtlfcgicobhalmaaWSrc2
import Derived.Test.YtlfcgicobhalmaaWLaw02
import Derived.Test.YtlfcgicobhalmaaOps
namespace Go.Proofs.Ytlfcgicobhalmaa.K
open Go Go.RowKit Go.Proofs.YtlfcgicobhalmaaW.PrintWords Go.Proofs.YtlfcgicobhalmaaW.PrintLast Go.Proofs.YtlfcgicobhalmaaW.PrintMore
set_option linter.unusedVariables false
set_option linter.unusedSimpArgs false
open Go.Proofs.Ytlfcgicobhalmaa.MOct (W V tk sz vr num head getV le be many putL)

/-- The worlds in which an Ask and a source that no call made stand. -/
def Ready (w0 : World) (cs : Array Value) (W : World) : Prop := Below w0.heap.size w0 W ∧ W.heap[w0.heap.size]? = some (.cells cs 39 (0, 0)) ∧ Src W (w0.heap.size + 1) false [] 0
theorem Ready.below {w0 W W' : World} {cs : Array Value} (h : Ready w0 cs W) (hb : Below W.heap.size W W') : Ready w0 cs W' :=
  ⟨bthen h.1 hb, (hb.block _ (Array.getElem?_eq_some_iff.1 h.2.1).1).trans h.2.1, h.2.2.below hb⟩
theorem Ready.grown {w0 W W' : World} {cs : Array Value} (h : Ready w0 cs W) (hb : W.grownBy W' (some (w0.heap.size + 1))) (hs : Src W' (w0.heap.size + 1) false [] 0) : Ready w0 cs W' :=
  ⟨⟨hb.os.trans h.1.os, hb.tape.trans h.1.tape, hb.output.trans h.1.output, Nat.le_trans h.1.size hb.size, fun i hi => (hb.block i (Nat.lt_of_lt_of_le hi h.1.size) (fun e => by have := Option.some.inj e; omega)).trans (h.1.block i hi)⟩,
    (hb.block _ (Array.getElem?_eq_some_iff.1 h.2.1).1 (fun e => by have := Option.some.inj e; omega)).trans h.2.1, hs⟩
theorem Ready.cells {w0 W : World} {cs : Array Value} (h : Ready w0 cs W) {i : Nat} {u : Value} (hi : cs[i]? = some u) : W.cell? ⟨w0.heap.size, i, none⟩ = some u := (cell_of_row W _ i _ 39 (0, 0) h.2.1).trans hi
theorem index0 (w : World) (a b : Option Addr) : (Instr.index 44 (.agg #[.pointer a, .pointer b]) (.int .i64 0)).run Try.prog w = .ok (.pointer a) w := by
  simp [Instr.index, run_underlying Try.underlying44, asIntOf, part, go_sem]
theorem index1 (w : World) (a b : Option Addr) : (Instr.index 44 (.agg #[.pointer a, .pointer b]) (.int .i64 1)).run Try.prog w = .ok (.pointer b) w := by
  simp [Instr.index, run_underlying Try.underlying44, asIntOf, part, go_sem]
theorem none_wrap : wrap64 0 = 0 := Go.IntWalk.wrap64_in _ (by omega)
theorem none_Num {w0 W : World} {cs : Array Value} {p : Value} {size : Int} {little : Bool} (h : Ready w0 cs W) (hp : p = .pointer none ∨ p = .pointer (some ⟨w0.heap.size + 1, 0, none⟩)) :
    Calls Try.prog 25 #[p, .int .i64 size, .bool little] W fun e W' => e = .returned (.int .u64 0) ∧ Ready w0 cs W' := by
  rcases hp with rfl | rfl
  · exact (Num_nil W size little).mono (by rintro e W' ⟨rfl, hb⟩; exact ⟨rfl, h.below hb⟩)
  · exact (Num_calls W _ false [] 0 size little h.2.2 bytesOk_nil).mono (by rintro e W' ⟨rfl, hb, hs⟩; exact ⟨rfl, h.grown hb hs⟩)
theorem none_Int {w0 W : World} {cs : Array Value} {p : Value} {little : Bool} (h : Ready w0 cs W) (hp : p = .pointer none ∨ p = .pointer (some ⟨w0.heap.size + 1, 0, none⟩)) :
    Calls Try.prog 26 #[p, .bool little] W fun e W' => e = .returned (.int .i64 0) ∧ Ready w0 cs W' := by
  rcases hp with rfl | rfl
  · exact (Int_nil W little).mono (by rintro e W' ⟨rfl, hb⟩; exact ⟨rfl, h.below hb⟩)
  · exact (Int_calls W _ false [] 0 little h.2.2 bytesOk_nil).mono (by rintro e W' ⟨rfl, hb, hs⟩; exact ⟨congrArg _ (congrArg _ none_wrap), h.grown hb hs⟩)
theorem none_Var {w0 W : World} {cs : Array Value} {p : Value} {n : Int} (h : Ready w0 cs W) (hp : p = .pointer none ∨ p = .pointer (some ⟨w0.heap.size + 1, 0, none⟩)) :
    Calls Try.prog 27 #[p, .int .u64 n] W fun e W' => e = .returned (.int .u64 0) ∧ Ready w0 cs W' := by
  rcases hp with rfl | rfl
  · exact (Var_nil W n).mono (by rintro e W' ⟨rfl, hb⟩; exact ⟨rfl, h.below hb⟩)
  · exact (Var_calls W _ false [] 0 n h.2.2 bytesOk_nil).mono (by rintro e W' ⟨rfl, hb, hs⟩; exact ⟨rfl, h.grown hb hs⟩)
theorem none_Byte {w0 W : World} {cs : Array Value} {p : Value}  (h : Ready w0 cs W) (hp : p = .pointer none ∨ p = .pointer (some ⟨w0.heap.size + 1, 0, none⟩)) :
    Calls Try.prog 29 #[p] W fun e W' => e = .returned (.int .u8 0) ∧ Ready w0 cs W' := by
  rcases hp with rfl | rfl
  · exact (Byte_nil W).mono (by rintro e W' ⟨rfl, hb⟩; exact ⟨rfl, h.below hb⟩)
  · exact (Byte_calls W _ false [] 0 h.2.2 bytesOk_nil).mono (by rintro e W' ⟨rfl, hb, hs⟩; exact ⟨rfl, h.grown hb hs⟩)
theorem none_Left {w0 W : World} {cs : Array Value} {p : Value}  (h : Ready w0 cs W) (hp : p = .pointer none ∨ p = .pointer (some ⟨w0.heap.size + 1, 0, none⟩)) :
    Calls Try.prog 30 #[p] W fun e W' => e = .returned (.int .i64 0) ∧ Ready w0 cs W' := by
  rcases hp with rfl | rfl
  · exact (Left_nil W).mono (by rintro e W' ⟨rfl, hb⟩; exact ⟨rfl, hb ▸ h⟩)
  · exact (Left_calls W _ false [] 0 h.2.2).mono (by rintro e W' ⟨rfl, hb⟩; exact ⟨rfl, hb ▸ h⟩)
theorem none_Err {w0 W : World} {cs : Array Value} {p : Value}  (h : Ready w0 cs W) (hp : p = .pointer none ∨ p = .pointer (some ⟨w0.heap.size + 1, 0, none⟩)) :
    Calls Try.prog 31 #[p] W fun e W' => e = .returned (.int .i64 1) ∧ Ready w0 cs W' := by
  rcases hp with rfl | rfl
  · exact (Err_nil W).mono (by rintro e W' ⟨rfl, hb⟩; exact ⟨rfl, hb ▸ h⟩)
  · exact (Err_calls W _ false [] 0 h.2.2).mono (by rintro e W' ⟨rfl, hb⟩; exact ⟨rfl, hb ▸ h⟩)
theorem none_End {w0 W : World} {cs : Array Value} {p : Value}  (h : Ready w0 cs W) (hp : p = .pointer none ∨ p = .pointer (some ⟨w0.heap.size + 1, 0, none⟩)) :
    Calls Try.prog 32 #[p] W fun e W' => e = .returned (.int .i64 1) ∧ Ready w0 cs W' := by
  rcases hp with rfl | rfl
  · exact (End_nil W).mono (by rintro e W' ⟨rfl, hb⟩; exact ⟨rfl, hb ▸ h⟩)
  · exact (End_calls W _ false [] 0 h.2.2).mono (by rintro e W' ⟨rfl, hb⟩; exact ⟨rfl, hb ▸ h⟩)
theorem none_Bytes {w0 W : World} {cs : Array Value} {p : Value} {n : Int} (h : Ready w0 cs W) (hp : p = .pointer none ∨ p = .pointer (some ⟨w0.heap.size + 1, 0, none⟩)) :
    Calls Try.prog 28 #[p, .int .i64 n] W fun e W' => ∃ A c, e = .returned (.slice A 0 c) ∧ Ready w0 cs W' := by
  rcases hp with rfl | rfl
  · exact (Bytes_nil W n).mono (by rintro e W' ⟨v, rfl, hr, hb⟩; obtain ⟨A, c, rfl, _⟩ := hr.reads; exact ⟨A, c, rfl, h.below hb⟩)
  · exact (Bytes_calls W _ false [] 0 n h.2.2 (by simp)).mono (by rintro e W' ⟨v, rfl, hr, hb, hs⟩; obtain ⟨A, c, rfl, _⟩ := hr.reads; exact ⟨A, c, rfl, h.grown hb hs⟩)
abbrev KA : Kd (Int × Int × Bool × Int) := Kd.pair (Kd.int .i64) (Kd.pair (Kd.int .i64) (Kd.pair Kd.bool (Kd.int .u64)))
set_option maxHeartbeats 1000000 in
set_option maxRecDepth 100000 in
theorem OctetNone_calls {w : World} (cs : Array Value) (x : Int × Int × Bool × Int) (hK : KA.K w x cs.toList)
    (hv : (Lit.int .i64 x.1).wf = true ∧ (Lit.int .i64 x.2.1).wf = true ∧ True ∧ (Lit.int .u64 x.2.2.2).wf = true) :
    Calls Try.prog 6 #[.agg cs] w fun e w' => e = .returned (.bool true) ∧ Below w.heap.size w w' := by
  obtain ⟨kd, size, little, n⟩ := x
  obtain ⟨_, _, e0, rfl, _, _, rfl, rfl, _, _, rfl, rfl, rfl⟩ := hK
  obtain rfl : cs = #[.int .i64 kd, .int .i64 size, .bool little, .int .u64 n] := by
    cases cs; simpa using e0
  clear hv e0
  go_enter Try.func6, Try.ntmps6
  go_upto_region 2 with (fail)
  generalize hW0 : (w.alloc (Obj.cells #[Value.int IntKind.i64 kd, Value.int IntKind.i64 size, Value.bool little, Value.int IntKind.u64 n] 39)).alloc (Obj.cells #[Value.bool false, Value.slice none 0 0, Value.int IntKind.i64 0] 42) = W0
  have hr0 : Ready w #[.int .i64 kd, .int .i64 size, .bool little, .int .u64 n] W0 := by
    subst hW0
    refine ⟨((Below.refl _ _).alloc (Nat.le_refl _) _).alloc (by simp) _, ?_, none, 0, ?_, Nat.le_refl _, ⟨CB.nil _, fun h => absurd h (by simp)⟩⟩
    · rw [Below.heap_alloc _ _ _ (by simp)]; exact heap_alloc_new w _
    · have := heap_alloc_new (w.alloc (Obj.cells #[Value.int IntKind.i64 kd, Value.int IntKind.i64 size, Value.bool little, Value.int IntKind.u64 n] 39)) (Obj.cells #[Value.bool false, Value.slice none 0 0, Value.int IntKind.i64 0] 42)
      simpa using this
  have HR0 := Lib.hid hr0
  clear hr0 hW0
  go_wp2
  go_loopw [7] (fun i wr => (i = .int .i64 0 ∨ i = .int .i64 1 ∨ i = .int .i64 2) ∧ Hid (Ready w #[.int .i64 kd, .int .i64 size, .bool little, .int .u64 n] wr)) (fun i _ => 2 - (intOf i).toNat)
  case atStart => exact ⟨.inl rfl, HR0⟩
  case round =>
    obtain ⟨hk, HR⟩ := hrel
    have y1 := HR.out.cells (i := 1) (u := .int .i64 size) rfl
    have y2 := HR.out.cells (i := 2) (u := .bool little) rfl
    have k3 := hk
    clear hk
    rcases k3 with rfl | rfl | rfl
    rotate_left 2
    · go_wp2_with (go_at_call 13; refine (lives02 _).mono ?_; rintro e w4 ⟨rfl, hb4⟩; have HB4 := Lib.hid hb4; clear hb4)
      go_ret
      exact ⟨rfl, bthen HR.out.1 HB4.out⟩
    all_goals
      go_wp2_with (first
        | (first | (with_reducible refine opIdx (.pointer none) _ _ _ rfl rfl ?_ ?_; focus (simp [execOp, Act.eval, index0, go_sem]; done)) | (with_reducible refine opIdx (.pointer (some ⟨w.heap.size + 1, 0, none⟩)) _ _ _ rfl rfl ?_ ?_; focus (simp [execOp, Act.eval, index1, go_sem]; done)))
        | (go_at_call 25; refine (none_Num HR.out (by simp)).mono ?_; rintro e W1 ⟨rfl, hr⟩; have HR1 := Lib.hid hr; have z2 := hr.cells (i := 2) (u := .bool little) rfl; clear hr)
        | (go_at_call 26; refine (none_Int HR1.out (by simp)).mono ?_; rintro e W2 ⟨rfl, hr⟩; have HR2 := Lib.hid hr; have v3 := hr.cells (i := 3) (u := .int .u64 n) rfl; clear hr)
        | (go_at_call 27; refine (none_Var HR2.out (by simp)).mono ?_; rintro e W3 ⟨rfl, hr⟩; have HR3 := Lib.hid hr; have t1 := hr.cells (i := 1) (u := .int .i64 size) rfl; clear hr)
        | (go_at_call 28; refine (none_Bytes HR3.out (by simp)).mono ?_; rintro e W4 ⟨A4, c4, rfl, hr⟩; have HR4 := Lib.hid hr; clear hr)
        | (go_at_call 29; refine (none_Byte HR4.out (by simp)).mono ?_; rintro e W5 ⟨rfl, hr⟩; have HR5 := Lib.hid hr; clear hr)
        | (go_at_call 30; refine (none_Left HR5.out (by simp)).mono ?_; rintro e W6 ⟨rfl, hr⟩; have HR6 := Lib.hid hr; clear hr)
        | (go_at_call 31; refine (none_Err HR6.out (by simp)).mono ?_; rintro e W7 ⟨rfl, hr⟩; have HR7 := Lib.hid hr; clear hr)
        | (go_at_call 32; refine (none_End HR7.out (by simp)).mono ?_; rintro e W8 ⟨rfl, hr⟩; have HR8 := Lib.hid hr; clear hr))
    · exact ⟨⟨.inr (.inl rfl), HR8⟩, by decide⟩
    · exact ⟨⟨.inr (.inr rfl), HR8⟩, by decide⟩
end Go.Proofs.Ytlfcgicobhalmaa.K
