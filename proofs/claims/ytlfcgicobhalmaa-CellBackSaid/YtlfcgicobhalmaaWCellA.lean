/- cell.Parse, walked. -/
import Derived.Test.YtlfcgicobhalmaaBase2
import Derived.Test.YtlfcgicobhalmaaWSrc2
import Derived.Test.YtlfcgicobhalmaaWBack
import Derived.Test.YtlfcgicobhalmaaWZig
import Derived.Test.YtlfcgicobhalmaaWLaw02
import Derived.Test.YtlfcgicobhalmaaMNode
import Derived.Test.YtlfcgicobhalmaaOps
import Derived.Test.YtlfcgicobhalmaaRegGen
import Derived.Test.YtlfcgicobhalmaaWZeros
import Derived.Test.YtlfcgicobhalmaaWRow
import Derived.Test.YtlfcgicobhalmaaWCell
import Derived.Test.YtlfcgicobhalmaaWCellG
import Derived.Test.YtlfcgicobhalmaaWCellB
import Derived.Test.YtlfcgicobhalmaaWCellZ
import Derived.Test.YtlfcgicobhalmaaWCellP
import Derived.Test.YtlfcgicobhalmaaWCellN
import Derived.Deep.RegionLaw
import Derived.ChangeKeysEq
namespace Go.Proofs.Ytlfcgicobhalmaa.K
open Go Go.RowKit Go.Proofs.YtlfcgicobhalmaaW.PrintWords Go.Proofs.YtlfcgicobhalmaaW.PrintLast Go.Proofs.YtlfcgicobhalmaaW.PrintMore
set_option linter.unusedVariables false
set_option linter.unusedSimpArgs false
open Go.Proofs.Ytlfcgicobhalmaa.MOct (W V tk sz vr num head getV le be many putL)
open Go.Proofs.Ytlfcgicobhalmaa.MOct (Cel isPageV localV spillsV insideV leafyV mayV goodFrom goodV u64 csize cbytes nsize nbody nbytes findV)

theorem equalIn_u8 (w : World) (d : Nat) (a b : Int) : (Op.equalIn (d + 1) 5 (.int .u8 a) (.int .u8 b)).run Try.prog w = .ok (a == b) w := by
  simp [Op.equalIn, run_underlying Try.underlying5]
theorem part_u8 (w : World) (l : List Int) (i : Nat) (hi : i < l.length) : (part 5 (l.map (Value.int .u8)).toArray (i * 1)).run Try.prog w = .ok (.int .u8 (l.getD i 0)) w := by
  have hx : (l.map (Value.int .u8)).toArray[i]? = some (.int .u8 (l.getD i 0)) := by
    simp [hi]
  unfold part
  rw [Sem.run_bind]
  have : (isAgg 5).run Try.prog w = .ok false w := by simp [isAgg, run_underlying Try.underlying5]
  rw [this]
  simp only [Result.andThen_ok, Bool.false_eq_true, if_false, Nat.mul_one]
  rw [hx]
  rfl
theorem items_u8 (w : World) (d : Nat) (l m : List Int) : ∀ is : List Nat, (∀ i ∈ is, i < l.length ∧ i < m.length) →
    (Op.eqItems (d + 1) 5 1 (l.map (Value.int .u8)).toArray (m.map (Value.int .u8)).toArray is).run Try.prog w = .ok (is.all fun i => l.getD i 0 == m.getD i 0) w := by
  intro is
  induction is with
  | nil => intro _; rfl
  | cons i is ih =>
    intro h
    have hi := h i (by simp)
    unfold Op.eqItems
    simp only [Sem.run_bind, part_u8 w l i hi.1, part_u8 w m i hi.2, Result.andThen_ok, equalIn_u8]
    cases hb : (l.getD i 0 == m.getD i 0) with
    | false => simp only [Bool.not_false, if_true, Sem.run_pure, List.all_cons, hb, Bool.false_and]
    | true => 
      simp only [Bool.not_true, Bool.false_eq_true, if_false, List.all_cons, hb, Bool.true_and]
      exact ih (fun j hj => h j (by simp [hj]))
theorem all_beq (l m : List Int) (n : Nat) (hl : l.length = n) (hm : m.length = n) : ((List.range n).all fun i => l.getD i 0 == m.getD i 0) = (l == m) := by
  rw [Bool.eq_iff_iff, List.all_eq_true, beq_iff_eq]
  constructor
  · intro h
    apply List.ext_getElem (by omega)
    intro i h1 h2
    have := h i (List.mem_range.2 (by omega))
    simpa [h1, h2] using this
  · rintro rfl i _
    simp
theorem equal97 (w : World) (l m : List Int) (hl : l.length = 512) (hm : m.length = 512) : (binOp .neq 97 (.agg (l.map (Value.int .u8)).toArray) (.agg (m.map (Value.int .u8)).toArray)).run Try.prog w = .ok (.bool (!(l == m))) w := by
  obtain ⟨i, hi⟩ : ∃ i, Try.prog.info? 5 = some i := by
    have : (Try.prog.info? 5).isSome = true := by kernel_rfl
    exact Option.isSome_iff_exists.1 this
  have hc : Try.prog.cellsOf 5 = 1 := by kernel_rfl
  have h := run_equalIn_array w 9999 (l.map (Value.int .u8)).toArray (m.map (Value.int .u8)).toArray Try.underlying97 hi
  rw [hc, items_u8 w 9998 l m _ (fun i hi => by have := List.mem_range.1 hi; omega), all_beq l m 512 hl hm] at h
  unfold binOp
  simp only [Sem.run_bind, Op.equal, Op.maxDepth, h, Result.andThen_ok, Sem.run_pure]
theorem load97 (w : World) (ad : Addr) (l : List Int) (hC : CB w (some ad) l) (hl : l.length = 512) : (loadVar 97 ad).run Try.prog w = .ok (.agg (l.map (Value.int .u8)).toArray) w := by
  have hL : (loadCells ad (l.map (Value.int .u8)).length).run Try.prog w = .ok (l.map (Value.int .u8)).toArray w :=
    run_loadCells_list (P := Try.prog) w ad (l.map (Value.int .u8)) (fun j v hv => by
      have hj : j < l.length := by
        rcases Nat.lt_or_ge j l.length with h | h
        · exact h
        · rw [List.getElem?_eq_none (by simpa using h)] at hv; cases hv
      obtain ⟨ad', e, hx⟩ := hC.at_ j hj
      obtain rfl := Option.some.inj e
      rw [hx, ← hv]
      simp [hj])
  have hagg : (isAgg 97).run Try.prog w = .ok true w := by simp [isAgg, run_underlying Try.underlying97]
  obtain ⟨i, hi⟩ : ∃ i, Try.prog.info? 97 = some i := by
    have : (Try.prog.info? 97).isSome = true := by kernel_rfl
    exact Option.isSome_iff_exists.1 this
  have hs : (sizeOf 97).run Try.prog w = .ok 512 w := by
    have h1 := run_sizeOf w hi
    have h2 : Try.prog.cellsOf 97 = 512 := by kernel_rfl
    rw [h2] at h1
    exact h1
  unfold loadVar
  rw [List.length_map, hl] at hL
  simp only [Sem.run_bind, hagg, Result.andThen_ok, if_true, hs, hL, Sem.run_pure]

theorem eqnil23 (w : World) (A : Option Addr) (n c : Nat) : (binOp .eql 23 (.slice A n c) (.slice none 0 0)).run Try.prog w = .ok (.bool A.isNone) w := by
  have h := Go.Lib.run_equalIn_slice_nil (P := Try.prog) w 9999 23 5 A n c 0 0 Try.underlying23
  unfold binOp
  simp only [Sem.run_bind, Op.equal, Op.maxDepth, h, Result.andThen_ok, Sem.run_pure]
theorem guard97 (w : World) (o1 o2 : Operand) (x y : Array Value) : (eqGuard .neq 97 o1 o2 (.agg x) (.agg y)).run Try.prog w = .ok () w := by
  have h : Try.prog.eqGuardType Try.prog.depth 97 = false := by kernel_rfl
  unfold eqGuard
  have hp : (Sem.run Try.prog (Sem.program Sem.pure) w) = .ok Try.prog w := rfl
  simp [h, program, hp]
theorem s2a97 (w : World) (ad : Addr) (c : Nat) : (Instr.arrayAt 97 (.slice (some ad) 512 c)).run Try.prog w = .ok (.pointer (some ad)) w := by
  unfold Instr.arrayAt
  simp only [Sem.run_bind, run_underlying Try.underlying97, Result.andThen_ok]
  rfl

/-- The worlds within Parse: the result's block b1, the node's block b2. -/
def PX (w0 W : World) (b2 : Nat) (cs : Array Value) : Prop := Below w0.heap.size w0 W ∧ w0.heap.size < b2 ∧ W.heap[w0.heap.size]? = some (.cells #[.bool false, .int .i64 0, .slice none 0 0] 55 (0, 0)) ∧ W.heap[b2]? = some (.cells cs 55 (0, 0))
theorem PX.step {w0 W W' : World} {b2 g : Nat} {cs : Array Value} (h : PX w0 W b2 cs) (hg : W.grownBy W' (some g)) (h1 : w0.heap.size < g) (h2 : g ≠ b2) : PX w0 W' b2 cs := by
  obtain ⟨a1, a2, a3, a4⟩ := h
  exact ⟨a1.grown hg a1.size (by intro k hk; injection hk with hk; omega), a2, (hg.block _ (blk_lt a3) (fun e => by have := Option.some.inj e; omega)).trans a3, (hg.block _ (blk_lt a4) (fun e => h2 (Option.some.inj e).symm)).trans a4⟩
theorem PX.row {w0 B W W' : World} {b2 : Nat} {cs : Array Value} {v : Value} {l : List Cel} (h : PX w0 W b2 cs) (hr : RO B W v l) (hB : w0.heap.size ≤ B.heap.size) (hg : W.grownBy W' v.ownBlock) : PX w0 W' b2 cs := by
  obtain ⟨a1, a2, a3, a4⟩ := h
  exact ⟨a1.grown hg a1.size (fun k hk => Nat.le_trans hB (hr.base k hk)), a2, (hg.block _ (blk_lt a3) (hr.ne a3 (by decide))).trans a3, (hg.block _ (blk_lt a4) (hr.ne a4 (by decide))).trans a4⟩
theorem PX.below {w0 W W' : World} {b2 : Nat} {cs : Array Value} (h : PX w0 W b2 cs) (hb : Below W.heap.size W W') : PX w0 W' b2 cs := by
  obtain ⟨a1, a2, a3, a4⟩ := h
  exact ⟨bthen a1 hb, a2, (hb.block _ (blk_lt a3)).trans a3, (hb.block _ (blk_lt a4)).trans a4⟩
theorem PX.set {w0 W : World} {b2 : Nat} {cs : Array Value} (h : PX w0 W b2 cs) (i : Nat) (u : Value) : PX w0 (W.setCell ⟨b2, i, none⟩ u) b2 (cs.setIfInBounds i u) := by
  obtain ⟨a1, a2, a3, a4⟩ := h
  exact ⟨below_set a1 (Nat.le_of_lt a2), a2, blk_far a3 (fun e => by have : w0.heap.size = b2 := e; omega) _, blk_set a4 i u⟩
theorem PX.cell {w0 W : World} {b2 : Nat} {cs : Array Value} (h : PX w0 W b2 cs) {i : Nat} {u : Value} (hi : cs[i]? = some u) : W.cell? ⟨b2, i, none⟩ = some u := (cell_of_row W _ i _ 55 (0, 0) h.2.2.2).trans hi
theorem PX.free {w0 W : World} {b2 : Nat} {cs : Array Value} (h : PX w0 W b2 cs) (i : Nat) : W.frozen? ⟨b2, i, none⟩ = false := blk_frozen h.2.2.2 i
theorem PX.rcell {w0 W : World} {b2 : Nat} {cs : Array Value} (h : PX w0 W b2 cs) {i : Nat} {u : Value} (hi : #[Value.bool false, .int .i64 0, .slice none 0 0][i]? = some u) : W.cell? ⟨w0.heap.size, i, none⟩ = some u := (cell_of_row W _ i _ 55 (0, 0) h.2.2.1).trans hi
theorem PX.rfree {w0 W : World} {b2 : Nat} {cs : Array Value} (h : PX w0 W b2 cs) (i : Nat) : W.frozen? ⟨w0.heap.size, i, none⟩ = false := blk_frozen h.2.2.1 i
theorem PX.end_ {w0 W : World} {b2 : Nat} {cs : Array Value} {a b c : Value} (h : PX w0 W b2 cs) {WF : World} (hWF : ((W.setCell ⟨w0.heap.size, 0, none⟩ a).setCell ⟨w0.heap.size, 1, none⟩ b).setCell ⟨w0.heap.size, 2, none⟩ c = WF) :
    Below w0.heap.size w0 WF ∧ WF.heap[w0.heap.size]? = some (.cells #[a, b, c] 55 (0, 0)) ∧ (∀ B v l, RO B W v l → RO B WF v l) := by
  obtain ⟨a1, a2, a3, a4⟩ := h
  subst hWF
  have e1 := blk_set a3 0 a
  have e2 := blk_set e1 1 b
  have e3 := blk_set e2 2 c
  exact ⟨below_set (below_set (below_set a1 (Nat.le_refl _)) (Nat.le_refl _)) (Nat.le_refl _), by simpa using e3, fun B v l hr => ((hr.set a3 (by decide) (by decide) 0 a).set e1 (by decide) (by decide) 1 b).set e2 (by decide) (by decide) 2 c⟩
/-- The head of a page: its kind, how many cells, the right child, what is left, the error. -/
def headV (b : List Int) : Bool × Nat × Int × List Int × Int :=
  let a := numS true b 0 1 false
  let k := numS true a.2.1 a.2.2 2 false
  let r := numS true k.2.1 k.2.2 4 false
  (IntKind.u8.wrap a.1 == 1, k.1.toNat, r.1, r.2.1, r.2.2)
/-- The node of a page. -/
def parseV (b : List Int) : Option (Bool × Int × List Cel) :=
  if b.length = 512 then
    let h := headV b
    let c := cellsV h.1 h.2.1 h.2.2.2.1 h.2.2.2.2
    if c.2.2 = 0 ∧ nbytes h.1 h.2.2.1 c.1 = b then some (h.1, h.2.2.1, c.1) else none
  else none
def errV (p : Option (Bool × Int × List Cel)) : Int := if p.isSome then 0 else 9
theorem num2 {l : List Int} {e : Int} (h : bytesOk l) : 0 ≤ (numS true l e 2 false).1 ∧ (numS true l e 2 false).1 < 65536 := by
  unfold numS
  split
  · exact ⟨by simp, by simp⟩
  · split
    · exact ⟨by simp, by simp⟩
    · split
      · rename_i h3
        unfold MOct.getV at h3 ⊢
        split
        · exact ⟨by simp, by simp⟩
        · rename_i h4
          have hl : (2 : Int).toNat ≤ l.length := by omega
          have h5 := MOct.num_range (MOct.head l (2 : Int).toNat false) (MOct.head_range l _ false h)
          rw [MOct.head_length l _ false hl] at h5
          exact ⟨h5.1, by have := h5.2; simpa using this⟩
      · exact ⟨by simp, by simp⟩
set_option maxHeartbeats 2000000 in
set_option maxRecDepth 100000 in
theorem parse_calls (A : Option Addr) (cap : Nat) (b : List Int) (w : World) (hC : CB w A b) (hc : b.length ≤ cap) (hb : bytesOk b) :
    Calls Try.prog 45 #[.slice A b.length cap] w fun e w' => ∃ A' c', e = .returned (.tuple #[.agg #[.bool (((parseV b).getD (false, 0, [])).1), .int .i64 ((parseV b).getD (false, 0, [])).2.1, .slice A' ((parseV b).getD (false, 0, [])).2.2.length c'], .int .i64 (errV (parseV b))]) ∧
      ((parseV b).getD (false, 0, [])).2.2.length ≤ c' ∧ KC9.C w' A' ((parseV b).getD (false, 0, [])).2.2.length ((parseV b).getD (false, 0, [])).2.2 ∧ Below w.heap.size w w' := by
  have HC := Lib.hid hC
  obtain ⟨pv, hpv⟩ : ∃ pv, parseV b = pv := ⟨_, rfl⟩
  by_cases h512 : b.length = 512
  · have hne : ((b.length : Int) != 512) = false := by simp; omega
    unfold parseV headV at hpv
    rw [if_pos h512] at hpv
    simp only at hpv
    rw [show parseV b = pv by rw [← hpv]; unfold parseV headV; rw [if_pos h512]]
    obtain ⟨ev, hev⟩ : ∃ ev, errV pv = ev := ⟨_, rfl⟩
    have HEV := Lib.hid hev
    rw [hev]
    clear hev
    have hb1 := numS_ok (e := 0) (sz := 1) (b := false) hb
    have hl1 := numS_le (l := b) (e := 0) (sz := 1) (b := false)
    have HB1 := Lib.hid (fun W g (hs : Src W g true b 0) => Byte_calls W g true b 0 hs hb)
    obtain ⟨r, hr⟩ : ∃ r, numS true b 0 1 false = r := ⟨_, rfl⟩
    rw [hr] at hb1 hl1 HB1 hpv
    obtain ⟨by0, l1, e1⟩ := r
    simp only at hb1 hl1 HB1 hpv
    have hk := num2 (e := e1) hb1
    have hb2 := numS_ok (e := e1) (sz := 2) (b := false) hb1
    have hl2 := numS_le (l := l1) (e := e1) (sz := 2) (b := false)
    have HN2 := Lib.hid (fun W g (hs : Src W g true l1 e1) => Num_calls W g true l1 e1 2 false hs hb1)
    obtain ⟨r, hr2⟩ : ∃ r, numS true l1 e1 2 false = r := ⟨_, rfl⟩
    rw [hr2] at hb2 hl2 HN2 hpv hk
    obtain ⟨kk, l2, e2⟩ := r
    simp only at hb2 hl2 HN2 hpv hk
    have hrr := num4 (e := e2) hb2
    have hb3 := numS_ok (e := e2) (sz := 4) (b := false) hb2
    have hl3 := numS_le (l := l2) (e := e2) (sz := 4) (b := false)
    have HN4 := Lib.hid (fun W g (hs : Src W g true l2 e2) => Num_calls W g true l2 e2 4 false hs hb2)
    obtain ⟨r, hr3⟩ : ∃ r, numS true l2 e2 4 false = r := ⟨_, rfl⟩
    rw [hr3] at hb3 hl3 HN4 hpv hrr
    obtain ⟨right, l3, e3⟩ := r
    simp only at hb3 hl3 HN4 hpv hrr
    obtain ⟨leaf, hleaf⟩ : ∃ leaf, (IntKind.u8.wrap by0 == 1) = leaf := ⟨_, rfl⟩
    rw [hleaf] at hpv
    obtain ⟨kn, hkn⟩ : ∃ kn : Nat, kn = kk.toNat := ⟨_, rfl⟩
    have hkk : kk = (kn : Int) := by omega
    rw [← hkn] at hpv
    have hok := cellsV_ok leaf kn (l := l3) (e := e3) hb3
    have hl3b : l3.length ≤ 512 := by omega
    have HPV := Lib.hid hpv
    have HR : Hid (Calls Try.prog 44 #[.slice A b.length cap] (w.alloc (.cells #[.bool false, .int .i64 0, .slice none 0 0] 55)) fun e' w1 => ∃ g, e' = .returned (.pointer (some ⟨g, 0, none⟩)) ∧ w.heap.size < g ∧ Below w.heap.size w w1 ∧ w1.heap[w.heap.size]? = some (.cells #[.bool false, .int .i64 0, .slice none 0 0] 55 (0, 0)) ∧ Src w1 g true b 0) := Lib.hid (by
      refine (Read_calls _ A cap b (hC.alloc _) hc (by omega)).mono ?_
      rintro e' w1 ⟨g, rfl, hg0, hbw1, hs1⟩
      have hsz : (w.alloc (.cells #[.bool false, .int .i64 0, .slice none 0 0] 55)).heap.size = w.heap.size + 1 := by simp
      exact ⟨g, rfl, by omega, bthen ((Below.refl _ _).alloc (Nat.le_refl _) _) hbw1, (hbw1.block _ (by omega)).trans (heap_alloc_new w _), hs1⟩)
    have HB3 := Lib.hid hb3
    have HOK := Lib.hid hok
    obtain ⟨wb, hwb⟩ : ∃ wb, IntKind.u8.wrap by0 = wb := ⟨_, rfl⟩
    rw [hwb] at HB1 hleaf
    have hwr : IntKind.i64.wrap right = right := by rw [IntKind.wrap_i64]; omega
    subst hkk
    have hkb : kn < 65536 := by omega
    obtain ⟨adb, hadb, _⟩ := hC.at_ 0 (by omega)
    subst hadb
    have HCB0 := Lib.hid hC
    have H512 := Lib.hid h512
    clear h512 hpv hr hr2 hr3 hb1 hb2 hb3 hl1 hl2 hl3 hwb hkn hC hb hok hrr hk
    go_enter Try.func45, Try.ntmps45
    go_upto_region 4 with (go_at_call 44; refine (HR.out).mono ?_; rintro e' w1 ⟨g, rfl, hg1, hbw1, hz1, hs1⟩; have HZ1 := Lib.hid hz1; have HS1 := Lib.hid hs1; have HW1 := Lib.hid hbw1; clear hbw1 hs1 hz1)
    go_upto_region 5 with (go_at_call 29; refine (HB1.out _ _ HS1.out).mono ?_; rintro e' w2 ⟨rfl, hg2, hs2⟩; have HS2 := Lib.hid hs2; have HG2 := Lib.hid hg2; clear hg2 hs2)
    have hP : PX w (w2.alloc (Obj.cells #[Value.bool leaf, Value.int .i64 0, Value.slice none 0 0] 55)) w2.heap.size #[.bool leaf, .int .i64 0, .slice none 0 0] := by
      have hB : Below w.heap.size w w2 := HW1.out.grown HG2.out HW1.out.size (by intro k hk; injection hk with hk; omega)
      have hz2 : w2.heap[w.heap.size]? = some (.cells #[.bool false, .int .i64 0, .slice none 0 0] 55 (0, 0)) := (HG2.out.block _ (blk_lt HZ1.out) (fun e => by have := Option.some.inj e; omega)).trans HZ1.out
      have hlt := blk_lt hz2
      exact ⟨hB.alloc hB.size _, hlt, (Below.heap_alloc w2 _ _ hlt).trans hz2, heap_alloc_new w2 _⟩
    have hs3 := HS2.out.below ((Below.refl w2.heap.size w2).alloc (Nat.le_refl _) (Obj.cells #[Value.bool leaf, Value.int .i64 0, Value.slice none 0 0] 55))
    have hgb : g ≠ w2.heap.size := by have := HS2.out.lt; omega
    generalize hW3 : w2.alloc (Obj.cells #[Value.bool leaf, Value.int .i64 0, Value.slice none 0 0] 55) = W3 at hP hs3 ⊢
    obtain ⟨b2, hb2⟩ : ∃ b2, w2.heap.size = b2 := ⟨_, rfl⟩
    rw [hb2] at hP hgb ⊢
    have HP3 := Lib.hid hP
    have HS3 := Lib.hid hs3
    clear hW3 hb2 hP hs3 HZ1 HW1 HS1 HG2 HS2
    go_upto_region 6 with (go_at_call 25; refine (HN2.out _ _ HS3.out).mono ?_; rintro e' w4 ⟨rfl, hg4, hs4⟩; have HP4 := Lib.hid (HP3.out.step hg4 hg1 hgb); have HS4 := Lib.hid hs4; clear hg4 hs4)
    go_upto_region 7 with (go_at_call 25; refine (HN4.out _ _ HS4.out).mono ?_; rintro e' w5 ⟨rfl, hg5, hs5⟩; have hp5 := HP4.out.step hg5 hg1 hgb; have c1 := hp5.cell (i := 1) rfl; have f1 := hp5.free 1; have HP5 := Lib.hid (hp5.set 1 (.int .i64 right)); have HS5 := Lib.hid (hs5.set hgb hp5.2.2.2 (by intro v hv x; simp at hv; rcases hv with rfl | rfl | rfl <;> simp) 1 (.int .i64 right)); clear hp5 hg5 hs5)
    generalize hW5 : w5.setCell ⟨b2, 1, none⟩ (Value.int .i64 right) = W5 at HP5 HS5 ⊢
    clear hW5 c1 f1 HP3 HS3 HP4 HS4
    obtain ⟨CS, hCS⟩ : ∃ CS, (cellsV leaf kn l3 e3).1 = CS := ⟨_, rfl⟩
    obtain ⟨FIN, hFIN⟩ : ∃ FIN, (cellsV leaf kn l3 e3).2 = FIN := ⟨_, rfl⟩
    have HCF0 : Hid (([] : List Cel) ++ (cellsV leaf kn l3 e3).1 = CS ∧ (cellsV leaf kn l3 e3).2 = FIN) := Lib.hid ⟨hCS, hFIN⟩
    have HPV2 : Hid ((if FIN.2 = 0 ∧ nbytes leaf right CS = b then some (leaf, right, CS) else none) = pv) := Lib.hid (by rw [← hCS, ← hFIN]; exact HPV.out)
    have HOK2 : Hid (CS.length ≤ kn ∧ ∀ c ∈ CS, ((-9223372036854775808 ≤ c.1 ∧ c.1 < 9223372036854775808) ∧ c.2.2.2.1.length ≤ l3.length)) := Lib.hid (by rw [← hCS]; exact HOK.out)
    have HB30 := Lib.hid (show bytesOk l3 ∧ l3.length ≤ 512 from ⟨HB3.out, hl3b⟩)
    have HE := Lib.hid (fun W l e (hs : Src W g true l e) => (Err_calls W g true l e hs).mono (fun e' w' (h : e' = .returned (.int .i64 (if true then e else 1)) ∧ W = w') => (show e' = .returned (.int .i64 e) ∧ W = w' from ⟨h.1, h.2⟩)))
    have HNX := Lib.hid (fun W l (hs : Src W g true l 0) (hb : bytesOk l ∧ l.length ≤ 512) => next_calls leaf W g l 0 hs hb.1 (by omega))
    have hgW5 : g < W5.heap.size := HS5.out.lt
    have hwW5 : w.heap.size ≤ W5.heap.size := HP5.out.1.size
    clear hCS hFIN HPV HOK HB3
    go_loopw [6] (fun i wr => ∃ (k : Nat) (v : Value) (xs : List Cel) (lr : List Int) (er : Int), i = .int .u64 k ∧ xs.length + k ≤ 65536 ∧ Hid (PX w wr b2 #[.bool leaf, .int .i64 right, v]) ∧ Hid (Src wr g true lr er) ∧ Hid (RO W5 wr v xs) ∧ W5.heap.size ≤ wr.heap.size ∧ Hid (bytesOk lr ∧ lr.length ≤ 512) ∧ Hid (xs ++ (cellsV leaf k lr er).1 = CS ∧ (cellsV leaf k lr er).2 = FIN)) (fun i _ => (intOf i).toNat)
    case atStart => exact ⟨kn, _, [], l3, e3, rfl, by simp; omega, HP5, HS5, Lib.hid (RO.nil _ _), Nat.le_refl _, HB30, HCF0⟩
    case round =>
      obtain ⟨k, v, xs, lr, er, rfl, hxk, HP, HS, HRO, hW5, HBO, HCF⟩ := hrel
      by_cases hgo : 0 < k ∧ er = 0
      · obtain ⟨hk0, rfl⟩ := hgo
        go_upto_region 9 with (go_at_call 31; refine (HE.out _ _ _ HS.out).mono ?_; rintro e' w6 ⟨rfl, rfl⟩)
        obtain ⟨A1, c1, rfl, hc1, _⟩ := HRO.out.reads
        obtain ⟨j, hj⟩ : ∃ j, k = j + 1 := ⟨k - 1, by omega⟩
        obtain ⟨nc, hnc⟩ : ∃ nc, nextV leaf lr 0 = nc := ⟨_, rfl⟩
        have hnx := fun W hs => HNX.out W lr hs HBO.out
        have hnok := nextV_ok leaf (e := 0) HBO.out.1
        have hcf := HCF.out
        rw [hj, cellsV, if_pos rfl, hnc] at hcf
        rw [hnc] at hnx hnok
        obtain ⟨⟨key, child, len, loc, next⟩, l', e'⟩ := nc
        simp only at hnx hnok hcf
        have HNC := Lib.hid hnx
        have HNO := Lib.hid hnok
        have HCF2 := Lib.hid hcf
        have HJ := Lib.hid hj
        have n0 := HP.out.cell (i := 0) rfl
        have n2 := HP.out.cell (i := 2) rfl
        have nf := HP.out.free 2
        have HLS : Hid ((xs.length + 1) * 56 ≤ 140737488355328) := Lib.hid (by omega)
        clear hnx hnok hcf hnc hj HCF
        go_region_law (first
          | (refine goes_ Try.func66 (by kernel_rfl) rfl #[.pointer (some ⟨g, 0, none⟩), .bool leaf] (by rfl) rfl rfl (by simp [Act.eval]) ?_
             refine (HNC.out _ (HS.out.below (Bel.drew _))).mono ?_
             rintro e6 w7 ⟨u, rfl, hu, hg7, hs7⟩
             have hp7 := (HP.out.below (Bel.drew _)).step hg7 hg1 hgb
             have m0 := hp7.cell (i := 0) rfl
             have m2 := hp7.cell (i := 2) rfl
             have mf := hp7.free 2
             have ma := (hp7.below ((Below.refl _ _).alloc (Nat.le_refl _) (Obj.cells #[.int .i64 key, .int .i64 child, .int .i64 len, u, .int .i64 next] 87))).cell (i := 2) rfl
             have HP7 := Lib.hid hp7
             have HS7 := Lib.hid hs7
             have HU7 := Lib.hid (hu.lower (w0 := W5) hW5)
             have HR7 := Lib.hid ((HRO.out.below (Bel.drew _)).src (HS.out.below (Bel.drew _)) hg7)
             have hW7 : W5.heap.size ≤ w7.heap.size := Nat.le_trans hW5 hg7.size
             clear hp7 hs7 hu hg7
             refine ⟨_, rfl, ?_⟩)
          | (refine step_of_list rfl (appO (B := W5) _ _ rfl rfl (.slice A1 xs.length c1) xs (key, child, len, loc, next) u rfl rfl HU7.out HR7.out hW7 HLS.out (fun v8 w8 h8 hg8 => ?_))
             obtain ⟨A8, c8, e8, hc8, _⟩ := h8.reads
             obtain ⟨m8, hm8⟩ : ∃ m, (xs ++ [(key, child, len, loc, next)]).length = m := ⟨_, rfl⟩
             rw [hm8] at e8
             subst e8
             have hp8 := HP7.out.row HR7.out hwW5 hg8
             have q2 := hp8.cell (i := 2) rfl
             have qf := hp8.free 2
             have HP8 := Lib.hid hp8
             have HR8 := Lib.hid h8
             have HS8 := Lib.hid (HS7.out.grow hg8 (fun k hk => Nat.lt_of_lt_of_le hgW5 (HR7.out.base k hk)))
             have hW8 : W5.heap.size ≤ w8.heap.size := Nat.le_trans hW7 hg8.size
             clear hp8 h8 hg8 hm8
             refine ⟨rfl, ?_⟩))
        all_goals
          have hp9 := HP8.out.set 2 (.slice A8 m8 c8)
          have hs9 := HS8.out.set hgb HP8.out.2.2.2 (by intro v hv x; simp at hv; rcases hv with rfl | rfl | rfl <;> simp) 2 (.slice A8 m8 c8)
          have hr9 := HR8.out.set HP8.out.2.2.2 (by decide) (by decide) 2 (.slice A8 m8 c8)
          have hW9 : W5.heap.size ≤ (w8.setCell ⟨b2, 2, none⟩ (.slice A8 m8 c8)).heap.size := by simpa [World.setCell] using hW8
          have hkj : (k : Int) - 1 = (j : Int) := by have := HJ.out; omega
          have HKJ := Lib.hid hkj
          have hk1 : 1 ≤ k := by omega
          generalize hW9e : w8.setCell ⟨b2, 2, none⟩ (Value.slice A8 m8 c8) = W9 at hp9 hs9 hr9 hW9 ⊢
          have HP9 := Lib.hid hp9
          have HS9 := Lib.hid hs9
          have HR9 := Lib.hid hr9
          clear hp9 hs9 hr9 hW9e m0 m2 mf ma q2 qf n0 n2 nf hkj HP HS HRO HP7 HS7 HU7 HR7 HP8 HR8 HS8
          go_wp2
          go_roundw
          case rel =>
            refine ⟨j, _, xs ++ [(key, child, len, loc, next)], l', e', congrArg _ HKJ.out, ?_, HP9, HS9, HR9, hW9, Lib.hid ⟨HNO.out.1, Nat.le_trans HNO.out.2.1 HBO.out.2⟩, Lib.hid ⟨?_, HCF2.out.2⟩⟩
            · have := HJ.out; simp; omega
            · rw [List.append_assoc, List.singleton_append]; exact HCF2.out.1
          case measure => (have := HJ.out; simp [intOf] <;> omega)
      · have hx : xs = CS ∧ (lr, er) = FIN := by
          have h1 := HCF.out
          rcases Nat.eq_zero_or_pos k with h0 | h0
          · rw [h0, cellsV, List.append_nil] at h1; exact h1
          · rw [cellsV_err leaf k lr (fun e => hgo ⟨h0, e⟩), List.append_nil] at h1; exact h1
        obtain ⟨rfl, rfl⟩ := hx
        obtain ⟨A1, c1, rfl, hc1, hC1⟩ := HRO.out.reads
        have hok2 : NodeOk xs := ⟨by have := HOK2.out.1; omega, fun c hc => ⟨(HOK2.out.2 c hc).1, by have := (HOK2.out.2 c hc).2; omega⟩⟩
        have HNB := Lib.hid (nbytes_calls leaf right xs A1 c1 wr hC1 hc1 hok2)
        have hpv := HPV2.out
        simp only at hpv
        obtain ⟨PG, hPG⟩ : ∃ PG, nbytes leaf right xs = PG := ⟨_, rfl⟩
        rw [hPG] at HNB hpv
        have hlen : PG = [] ∨ PG.length = 512 := by
          rw [← hPG]; unfold nbytes
          by_cases hq : goodV leaf right xs = true ∧ nsize leaf xs ≤ 512
          · right; have := MOct.nbytes_length leaf right xs hq; unfold nbytes at this; exact this
          · left; rw [if_neg hq]
        have HPVX := Lib.hid hpv
        have n0 := HP.out.cell (i := 0) rfl
        have n1 := HP.out.cell (i := 1) rfl
        have n2 := HP.out.cell (i := 2) rfl
        have HCX := Lib.hid hC1
        have HROX := HRO
        clear hpv hPG HCF HPV2 HOK2 HRO hok2 hC1
        by_cases hk0 : 0 < k
        · have her : er ≠ 0 := fun e => hgo ⟨hk0, e⟩
          have b1 : (er == 0) = false := by simpa using her
          have b2' : (er != 0) = true := by simpa using her
          have HER := Lib.hid her
          clear her hgo
          go_upto_region 11 with (first
            | (go_at_call 51; refine (HNB.out).mono ?_; rintro e6 w6 ⟨v6, rfl, hr6, hn6, hb6⟩; have HR6 := Lib.hid hr6; have HN6 := Lib.hid hn6; have HP6 := Lib.hid (HP.out.below hb6); have HS6 := Lib.hid (HS.out.below hb6); have HC6 := Lib.hid (Kd.C_below HCX.out hb6); clear hr6 hn6 hb6)
            | (go_at_call 31; refine (HE.out _ _ _ HS.out).mono ?_; rintro e' w6 ⟨rfl, rfl⟩))
          go_quiet ((go_at_call 31; exact (HE.out _ _ _ (HS6.out.below (pw_below_drewN (Below.refl _ _) _))).mono fun e w0 h => ⟨h.1, _, h.2.symm⟩))
          have hpd := HP6.out.below (pw_below_drewN (Below.refl _ _) nq)
          have r0 := hpd.rcell (i := 0) rfl
          have r1 := hpd.rcell (i := 1) rfl
          have r2 := hpd.rcell (i := 2) rfl
          have s0 := hpd.rfree 0
          have s1 := hpd.rfree 1
          have s2 := hpd.rfree 2
          have HPD := Lib.hid hpd
          clear hpd n0 n1 n2
          go_wp2
          generalize hWF : (((w6.drewN nq).setCell ⟨w.heap.size, 0, none⟩ (Value.bool false)).setCell ⟨w.heap.size, 1, none⟩ (Value.int .i64 0)).setCell ⟨w.heap.size, 2, none⟩ (Value.slice none 0 0) = WF
          obtain ⟨q1, q2, _⟩ := PX.end_ HPD.out hWF
          refine bodyPost_ret (results_list (rs := [.cell 2 55, .tmp 3]) rfl (by simp) (.cell (w.heap.size) 55 _ (0, 0) _ rfl q2 Try.underlying55 rfl (by kernel_rfl) (.tmp .nil))) rfl ?_
          have hpn : pv = none := by have := HPVX.out; rw [if_neg (fun h => HER.out h.1)] at this; exact this.symm
          subst hpn
          have hev : ev = 9 := HEV.out.symm
          subst hev
          exact ⟨none, 0, rfl, Nat.le_refl _, Kd.C_nil _ _, q1⟩
        · have hk0' : k = 0 := by omega
          subst hk0'
          by_cases her : er = 0
          · subst her
            rcases hlen with hnil | h512p
            · subst hnil
              go_upto_region 11 with (go_at_call 51; refine (HNB.out).mono ?_; rintro e6 w6 ⟨v6, rfl, hr6, hn6, hb6⟩; obtain rfl := hn6 rfl; have HN6 := Lib.hid hn6; have HP6 := Lib.hid (HP.out.below hb6); have HS6 := Lib.hid (HS.out.below hb6); have HC6 := Lib.hid (Kd.C_below HCX.out hb6); have HRO6 := Lib.hid (HROX.out.below hb6); have HCB := Lib.hid ((HCB0.out.below HP.out.1).below hb6); clear hr6 hn6 hb6)
              have hbne : ¬ (([] : List Int) = b) := fun e => by have := H512.out; rw [← e] at this; simp at this
              have HBN := Lib.hid hbne
              clear hbne
              rw [H512.out]
              refine Reg.region_mono (P := Try.prog) (Ext := Bel) (R := fun i v W => match i with
                  | 0 => v = .pointer (some ⟨g, 0, none⟩)
                  | 1 => v = .int .i64 0
                  | 2 => v = .bool false
                  | 3 => v = .bool false
                  | 4 => v = .slice none 0 0
                  | 5 => v = .bool true
                  | 6 => v = .bool true
                  | 7 => v = .bool true
                  | 8 => v = undef
                  | 9 => v = undef
                  | 10 => v = undef
                  | 11 => v = undef
                  | 12 => v = undef
                  | 13 => v = undef
                  | 14 => v = undef
                  | 15 => v = .bool true
                  | _ => True) (fun W => Below w6.heap.size w6 W) rfl (by kernel_rfl) (by kernel_rfl) (Bel.drew w6) (fun W W' h h' => bthen h h') Bel.refl (by intro j v W W' hx h; split at h <;> exact h) ?_ ?_
              · intro i oi hoi a W hW need old
                match i, hoi with
                | 0, hoi =>
                  simp only [List.getElem?_toArray, List.getElem?_cons_succ, List.getElem?_cons_zero, Option.some.injEq] at hoi
                  subst hoi
                  refine Reg.ob_plain rfl ?_
                  have e4 : a.eval (.tmp 4) = .pointer (some ⟨g, 0, none⟩) := old 4 (by kernel_rfl)
                  refine Reg.wp_val (W' := W) (v := _) (by simp only [execOp, e4, Reg.eval_const]; rfl) ⟨_, rfl, Bel.refl W, rfl⟩
                | 1, hoi =>
                  simp only [List.getElem?_toArray, List.getElem?_cons_succ, List.getElem?_cons_zero, Option.some.injEq] at hoi
                  subst hoi
                  refine Reg.ob_plain rfl ?_
                  have e44 : a.eval (.tmp 44) = .pointer (some ⟨g, 0, none⟩) := need 0 _ 44 rfl rfl (by kernel_rfl)
                  refine Reg.wp_call (f := 31) (args := #[.pointer (some ⟨g, 0, none⟩)]) (by simp only [execOp, e44, Reg.eval_const, resolve, invoke, List.map_toArray, List.map_cons, List.map_nil]; go_simp) ?_
                  refine (HE.out W _ _ (HS6.out.below hW)).mono ?_
                  rintro e' W' ⟨rfl, rfl⟩; exact ⟨_, rfl, _, rfl, Bel.refl _, rfl⟩
                | 2, hoi =>
                  simp only [List.getElem?_toArray, List.getElem?_cons_succ, List.getElem?_cons_zero, Option.some.injEq] at hoi
                  subst hoi
                  refine Reg.ob_plain rfl ?_
                  have e45 : a.eval (.tmp 45) = .int .i64 0 := need 1 _ 45 rfl rfl (by kernel_rfl)
                  refine Reg.wp_val (W' := W) (v := .bool false) (by simp only [execOp, e45, Reg.eval_const, resolve, invoke, builtin, List.map_toArray, List.map_cons, List.map_nil, Option.map_some, Option.map_none]; (first | rfl | go_simp | (go_simp; rfl))) ⟨_, rfl, Bel.refl W, rfl⟩
                | 3, hoi =>
                  simp only [List.getElem?_toArray, List.getElem?_cons_succ, List.getElem?_cons_zero, Option.some.injEq] at hoi
                  subst hoi
                  refine Reg.ob_plain rfl ?_
                  have e46 : a.eval (.tmp 46) = .bool false := need 2 _ 46 rfl rfl (by kernel_rfl)
                  refine Reg.wp_val (W' := W) (v := _) (by simp only [execOp, e46, Reg.eval_const]; rfl) ⟨_, rfl, Bel.refl W, rfl⟩
                | 4, hoi =>
                  simp only [List.getElem?_toArray, List.getElem?_cons_succ, List.getElem?_cons_zero, Option.some.injEq] at hoi
                  subst hoi
                  have eg : a.eval (.tmp 47) = .bool false := need 3 _ 47 rfl rfl (by kernel_rfl)
                  refine Reg.ob_yes rfl rfl rfl eg ?_
                  have e7 : a.eval (.tmp 7) = .slice none 0 0 := old 7 (by kernel_rfl)
                  refine Reg.wp_val (W' := W) (v := _) (by simp only [execOp, e7, Reg.eval_const]; rfl) ⟨_, rfl, Bel.refl W, rfl⟩
                | 5, hoi =>
                  simp only [List.getElem?_toArray, List.getElem?_cons_succ, List.getElem?_cons_zero, Option.some.injEq] at hoi
                  subst hoi
                  have eg : a.eval (.tmp 47) = .bool false := need 3 _ 47 rfl rfl (by kernel_rfl)
                  refine Reg.ob_yes rfl rfl rfl eg ?_
                  have e48 : a.eval (.tmp 48) = .slice none 0 0 := need 4 _ 48 rfl rfl (by kernel_rfl)
                  have hx := eqnil23 W none 0 0
                  refine Reg.wp_val (W' := W) (v := .bool true) (by simp only [execOp, e48, Reg.eval_const, Sem.run_bind, hx, Result.andThen_ok, Sem.run_pure]; rfl) ⟨_, rfl, Bel.refl W, rfl⟩
                | 6, hoi =>
                  simp only [List.getElem?_toArray, List.getElem?_cons_succ, List.getElem?_cons_zero, Option.some.injEq] at hoi
                  subst hoi
                  refine Reg.ob_plain rfl ?_
                  have e47 : a.eval (.tmp 47) = .bool false := need 3 _ 47 rfl rfl (by kernel_rfl)
                  have e49 : a.eval (.tmp 49) = .bool true := need 5 _ 49 rfl rfl (by kernel_rfl)
                  refine Reg.wp_val (W' := W) (v := .bool true) (by simp only [execOp, e47, e49, Reg.eval_const, resolve, invoke, builtin, List.map_toArray, List.map_cons, List.map_nil, Option.map_some, Option.map_none]; (first | rfl | go_simp | (go_simp; rfl))) ⟨_, rfl, Bel.refl W, rfl⟩
                | 7, hoi =>
                  simp only [List.getElem?_toArray, List.getElem?_cons_succ, List.getElem?_cons_zero, Option.some.injEq] at hoi
                  subst hoi
                  refine Reg.ob_plain rfl ?_
                  have e50 : a.eval (.tmp 50) = .bool true := need 6 _ 50 rfl rfl (by kernel_rfl)
                  refine Reg.wp_val (W' := W) (v := _) (by simp only [execOp, e50, Reg.eval_const]; rfl) ⟨_, rfl, Bel.refl W, rfl⟩
                | 8, hoi =>
                  simp only [List.getElem?_toArray, List.getElem?_cons_succ, List.getElem?_cons_zero, Option.some.injEq] at hoi
                  subst hoi
                  have eg : a.eval (.tmp 51) = .bool true := need 7 _ 51 rfl rfl (by kernel_rfl)
                  exact Reg.ob_no rfl rfl rfl eg (by decide) rfl
                | 9, hoi =>
                  simp only [List.getElem?_toArray, List.getElem?_cons_succ, List.getElem?_cons_zero, Option.some.injEq] at hoi
                  subst hoi
                  have eg : a.eval (.tmp 51) = .bool true := need 7 _ 51 rfl rfl (by kernel_rfl)
                  exact Reg.ob_no rfl rfl rfl eg (by decide) rfl
                | 10, hoi =>
                  simp only [List.getElem?_toArray, List.getElem?_cons_succ, List.getElem?_cons_zero, Option.some.injEq] at hoi
                  subst hoi
                  have eg : a.eval (.tmp 51) = .bool true := need 7 _ 51 rfl rfl (by kernel_rfl)
                  exact Reg.ob_no rfl rfl rfl eg (by decide) rfl
                | 11, hoi =>
                  simp only [List.getElem?_toArray, List.getElem?_cons_succ, List.getElem?_cons_zero, Option.some.injEq] at hoi
                  subst hoi
                  have eg : a.eval (.tmp 51) = .bool true := need 7 _ 51 rfl rfl (by kernel_rfl)
                  exact Reg.ob_no rfl rfl rfl eg (by decide) rfl
                | 12, hoi =>
                  simp only [List.getElem?_toArray, List.getElem?_cons_succ, List.getElem?_cons_zero, Option.some.injEq] at hoi
                  subst hoi
                  have eg : a.eval (.tmp 51) = .bool true := need 7 _ 51 rfl rfl (by kernel_rfl)
                  exact Reg.ob_no rfl rfl rfl eg (by decide) rfl
                | 13, hoi =>
                  simp only [List.getElem?_toArray, List.getElem?_cons_succ, List.getElem?_cons_zero, Option.some.injEq] at hoi
                  subst hoi
                  have eg : a.eval (.tmp 51) = .bool true := need 7 _ 51 rfl rfl (by kernel_rfl)
                  exact Reg.ob_no rfl rfl rfl eg (by decide) rfl
                | 14, hoi =>
                  simp only [List.getElem?_toArray, List.getElem?_cons_succ, List.getElem?_cons_zero, Option.some.injEq] at hoi
                  subst hoi
                  have eg : a.eval (.tmp 51) = .bool true := need 7 _ 51 rfl rfl (by kernel_rfl)
                  exact Reg.ob_no rfl rfl rfl eg (by decide) rfl
                | 15, hoi =>
                  simp only [List.getElem?_toArray, List.getElem?_cons_succ, List.getElem?_cons_zero, Option.some.injEq] at hoi
                  subst hoi
                  refine Reg.ob_plain rfl ?_
                  have e51 : a.eval (.tmp 51) = .bool true := need 7 _ 51 rfl rfl (by kernel_rfl)
                  have e58 : a.eval (.tmp 58) = undef := need 14 _ 58 rfl rfl (by kernel_rfl)
                  refine Reg.wp_val (W' := W) (v := .bool true) (by simp only [execOp, e51, e58, Reg.eval_const, resolve, invoke, builtin, List.map_toArray, List.map_cons, List.map_nil, Option.map_some, Option.map_none]; (first | rfl | go_simp | (go_simp; rfl))) ⟨_, rfl, Bel.refl W, rfl⟩
                | n + 16, hoi => simp at hoi
              · intro a w9 hW hsize hdef got same did
                have ha := Reg.act_of [44, 45, 46, 47, 48, 49, 50, 51, 52, 53, 54, 55, 56, 57, 58, 59] hsize hdef same (by kernel_rfl)
                simp only [List.foldl_cons, List.foldl_nil] at ha
                generalize a.tmps.getD 44 undef = y44 at ha
                generalize a.tmps.getD 45 undef = y45 at ha
                generalize a.tmps.getD 46 undef = y46 at ha
                generalize a.tmps.getD 47 undef = y47 at ha
                generalize a.tmps.getD 48 undef = y48 at ha
                generalize a.tmps.getD 49 undef = y49 at ha
                generalize a.tmps.getD 50 undef = y50 at ha
                generalize a.tmps.getD 51 undef = y51 at ha
                generalize a.tmps.getD 52 undef = y52 at ha
                generalize a.tmps.getD 53 undef = y53 at ha
                generalize a.tmps.getD 54 undef = y54 at ha
                generalize a.tmps.getD 55 undef = y55 at ha
                generalize a.tmps.getD 56 undef = y56 at ha
                generalize a.tmps.getD 57 undef = y57 at ha
                generalize a.tmps.getD 58 undef = y58 at ha
                have k59 := got 15 _ 59 rfl rfl
                simp only at k59
                rw [k59] at ha
                clear k59
                clear got same hsize hdef did
                subst ha
                simp only [List.setIfInBounds_toArray, List.set_cons_zero, List.set_cons_succ]
                have hpd := HP6.out.below hW
                have r0 := hpd.rcell (i := 0) rfl
                have r1 := hpd.rcell (i := 1) rfl
                have r2 := hpd.rcell (i := 2) rfl
                have s0 := hpd.rfree 0
                have s1 := hpd.rfree 1
                have s2 := hpd.rfree 2
                have HPD := Lib.hid hpd
                clear hpd n0 n1 n2
                go_wp2
                generalize hWF : (((w9).setCell ⟨w.heap.size, 0, none⟩ (Value.bool false)).setCell ⟨w.heap.size, 1, none⟩ (Value.int .i64 0)).setCell ⟨w.heap.size, 2, none⟩ (Value.slice none 0 0) = WF
                obtain ⟨q1, q2, _⟩ := PX.end_ HPD.out hWF
                refine bodyPost_ret (results_list (rs := [.cell 2 55, .tmp 3]) rfl (by simp) (.cell (w.heap.size) 55 _ (0, 0) _ rfl q2 Try.underlying55 rfl (by kernel_rfl) (.tmp .nil))) rfl ?_
                have hpn : pv = none := by have := HPVX.out; rw [if_neg (fun h => HBN.out h.2)] at this; exact this.symm
                subst hpn
                have hev : ev = 9 := HEV.out.symm
                subst hev
                exact ⟨none, 0, rfl, Nat.le_refl _, Kd.C_nil _ _, q1⟩
            · have HLP := Lib.hid h512p
              clear h512p
              by_cases hpb : PG = b
              · have HEB := Lib.hid hpb
                have HEQ : Hid ((!(PG == b)) = false) := Lib.hid (by rw [hpb]; simp)
                clear hpb
                go_upto_region 11 with (go_at_call 51; refine (HNB.out).mono ?_; rintro e6 w6 ⟨v6, rfl, hr6, hn6, hb6⟩; obtain ⟨A7, c7, rfl, h7, hC7⟩ := page_form hr6 HLP.out; obtain ⟨ad7, had7, _⟩ := hC7.at_ 0 (by rw [HLP.out]; omega); subst had7; have HC7 := Lib.hid hC7; have HP6 := Lib.hid (HP.out.below hb6); have HS6 := Lib.hid (HS.out.below hb6); have HRO6 := Lib.hid (HROX.out.below hb6); have HCB := Lib.hid ((HCB0.out.below HP.out.1).below hb6); clear hr6 hn6 hb6 hC7)
                rw [H512.out]
                refine Reg.region_mono (P := Try.prog) (Ext := Bel) (R := fun i v W => match i with
                    | 0 => v = .pointer (some ⟨g, 0, none⟩)
                    | 1 => v = .int .i64 0
                    | 2 => v = .bool false
                    | 3 => v = .bool false
                    | 4 => v = .slice (some ad7) 512 c7
                    | 5 => v = .bool false
                    | 6 => v = .bool false
                    | 7 => v = .bool false
                    | 8 => v = .slice (some ad7) 512 c7
                    | 9 => v = .pointer (some ad7)
                    | 10 => v = .agg (PG.map (Value.int .u8)).toArray
                    | 11 => v = .slice (some adb) 512 cap
                    | 12 => v = .pointer (some adb)
                    | 13 => v = .agg (b.map (Value.int .u8)).toArray
                    | 14 => v = .bool false
                    | 15 => v = .bool false
                    | _ => True) (fun W => Below w6.heap.size w6 W) rfl (by kernel_rfl) (by kernel_rfl) (Bel.drew w6) (fun W W' h h' => bthen h h') Bel.refl (by intro j v W W' hx h; split at h <;> exact h) ?_ ?_
                · intro i oi hoi a W hW need old
                  match i, hoi with
                  | 0, hoi =>
                    simp only [List.getElem?_toArray, List.getElem?_cons_succ, List.getElem?_cons_zero, Option.some.injEq] at hoi
                    subst hoi
                    refine Reg.ob_plain rfl ?_
                    have e4 : a.eval (.tmp 4) = .pointer (some ⟨g, 0, none⟩) := old 4 (by kernel_rfl)
                    refine Reg.wp_val (W' := W) (v := _) (by simp only [execOp, e4, Reg.eval_const]; rfl) ⟨_, rfl, Bel.refl W, rfl⟩
                  | 1, hoi =>
                    simp only [List.getElem?_toArray, List.getElem?_cons_succ, List.getElem?_cons_zero, Option.some.injEq] at hoi
                    subst hoi
                    refine Reg.ob_plain rfl ?_
                    have e44 : a.eval (.tmp 44) = .pointer (some ⟨g, 0, none⟩) := need 0 _ 44 rfl rfl (by kernel_rfl)
                    refine Reg.wp_call (f := 31) (args := #[.pointer (some ⟨g, 0, none⟩)]) (by simp only [execOp, e44, Reg.eval_const, resolve, invoke, List.map_toArray, List.map_cons, List.map_nil]; go_simp) ?_
                    refine (HE.out W _ _ (HS6.out.below hW)).mono ?_
                    rintro e' W' ⟨rfl, rfl⟩; exact ⟨_, rfl, _, rfl, Bel.refl _, rfl⟩
                  | 2, hoi =>
                    simp only [List.getElem?_toArray, List.getElem?_cons_succ, List.getElem?_cons_zero, Option.some.injEq] at hoi
                    subst hoi
                    refine Reg.ob_plain rfl ?_
                    have e45 : a.eval (.tmp 45) = .int .i64 0 := need 1 _ 45 rfl rfl (by kernel_rfl)
                    refine Reg.wp_val (W' := W) (v := .bool false) (by simp only [execOp, e45, Reg.eval_const, resolve, invoke, builtin, List.map_toArray, List.map_cons, List.map_nil, Option.map_some, Option.map_none]; (first | rfl | go_simp | (go_simp; rfl))) ⟨_, rfl, Bel.refl W, rfl⟩
                  | 3, hoi =>
                    simp only [List.getElem?_toArray, List.getElem?_cons_succ, List.getElem?_cons_zero, Option.some.injEq] at hoi
                    subst hoi
                    refine Reg.ob_plain rfl ?_
                    have e46 : a.eval (.tmp 46) = .bool false := need 2 _ 46 rfl rfl (by kernel_rfl)
                    refine Reg.wp_val (W' := W) (v := _) (by simp only [execOp, e46, Reg.eval_const]; rfl) ⟨_, rfl, Bel.refl W, rfl⟩
                  | 4, hoi =>
                    simp only [List.getElem?_toArray, List.getElem?_cons_succ, List.getElem?_cons_zero, Option.some.injEq] at hoi
                    subst hoi
                    have eg : a.eval (.tmp 47) = .bool false := need 3 _ 47 rfl rfl (by kernel_rfl)
                    refine Reg.ob_yes rfl rfl rfl eg ?_
                    have e7 : a.eval (.tmp 7) = .slice (some ad7) 512 c7 := old 7 (by kernel_rfl)
                    refine Reg.wp_val (W' := W) (v := _) (by simp only [execOp, e7, Reg.eval_const]; rfl) ⟨_, rfl, Bel.refl W, rfl⟩
                  | 5, hoi =>
                    simp only [List.getElem?_toArray, List.getElem?_cons_succ, List.getElem?_cons_zero, Option.some.injEq] at hoi
                    subst hoi
                    have eg : a.eval (.tmp 47) = .bool false := need 3 _ 47 rfl rfl (by kernel_rfl)
                    refine Reg.ob_yes rfl rfl rfl eg ?_
                    have e48 : a.eval (.tmp 48) = .slice (some ad7) 512 c7 := need 4 _ 48 rfl rfl (by kernel_rfl)
                    have hx := eqnil23 W (some ad7) 512 c7
                    refine Reg.wp_val (W' := W) (v := .bool false) (by simp only [execOp, e48, Reg.eval_const, Sem.run_bind, hx, Result.andThen_ok, Sem.run_pure]; rfl) ⟨_, rfl, Bel.refl W, rfl⟩
                  | 6, hoi =>
                    simp only [List.getElem?_toArray, List.getElem?_cons_succ, List.getElem?_cons_zero, Option.some.injEq] at hoi
                    subst hoi
                    refine Reg.ob_plain rfl ?_
                    have e47 : a.eval (.tmp 47) = .bool false := need 3 _ 47 rfl rfl (by kernel_rfl)
                    have e49 : a.eval (.tmp 49) = .bool false := need 5 _ 49 rfl rfl (by kernel_rfl)
                    refine Reg.wp_val (W' := W) (v := .bool false) (by simp only [execOp, e47, e49, Reg.eval_const, resolve, invoke, builtin, List.map_toArray, List.map_cons, List.map_nil, Option.map_some, Option.map_none]; (first | rfl | go_simp | (go_simp; rfl))) ⟨_, rfl, Bel.refl W, rfl⟩
                  | 7, hoi =>
                    simp only [List.getElem?_toArray, List.getElem?_cons_succ, List.getElem?_cons_zero, Option.some.injEq] at hoi
                    subst hoi
                    refine Reg.ob_plain rfl ?_
                    have e50 : a.eval (.tmp 50) = .bool false := need 6 _ 50 rfl rfl (by kernel_rfl)
                    refine Reg.wp_val (W' := W) (v := _) (by simp only [execOp, e50, Reg.eval_const]; rfl) ⟨_, rfl, Bel.refl W, rfl⟩
                  | 8, hoi =>
                    simp only [List.getElem?_toArray, List.getElem?_cons_succ, List.getElem?_cons_zero, Option.some.injEq] at hoi
                    subst hoi
                    have eg : a.eval (.tmp 51) = .bool false := need 7 _ 51 rfl rfl (by kernel_rfl)
                    refine Reg.ob_yes rfl rfl rfl eg ?_
                    have e7 : a.eval (.tmp 7) = .slice (some ad7) 512 c7 := old 7 (by kernel_rfl)
                    refine Reg.wp_val (W' := W) (v := _) (by simp only [execOp, e7, Reg.eval_const]; rfl) ⟨_, rfl, Bel.refl W, rfl⟩
                  | 9, hoi =>
                    simp only [List.getElem?_toArray, List.getElem?_cons_succ, List.getElem?_cons_zero, Option.some.injEq] at hoi
                    subst hoi
                    have eg : a.eval (.tmp 51) = .bool false := need 7 _ 51 rfl rfl (by kernel_rfl)
                    refine Reg.ob_yes rfl rfl rfl eg ?_
                    have e52 : a.eval (.tmp 52) = .slice (some ad7) 512 c7 := need 8 _ 52 rfl rfl (by kernel_rfl)
                    have hx := s2a97 W ad7 c7
                    refine Reg.wp_val (W' := W) (v := .pointer (some ad7)) (by simp only [execOp, e52, Sem.run_bind, hx, Result.andThen_ok, Sem.run_pure]) ⟨_, rfl, Bel.refl W, rfl⟩
                  | 10, hoi =>
                    simp only [List.getElem?_toArray, List.getElem?_cons_succ, List.getElem?_cons_zero, Option.some.injEq] at hoi
                    subst hoi
                    have eg : a.eval (.tmp 51) = .bool false := need 7 _ 51 rfl rfl (by kernel_rfl)
                    refine Reg.ob_yes rfl rfl rfl eg ?_
                    have e53 : a.eval (.tmp 53) = .pointer (some ad7) := need 9 _ 53 rfl rfl (by kernel_rfl)
                    have hx := load97 W ad7 PG (HC7.out.below hW) HLP.out
                    refine Reg.wp_val (W' := W) (v := .agg (PG.map (Value.int .u8)).toArray) (by simp only [execOp, e53, Instr.loadAt, Instr.sureAddr, Sem.run_bind, Sem.run_pure, Result.andThen_ok, hx]) ⟨_, rfl, Bel.refl W, rfl⟩
                  | 11, hoi =>
                    simp only [List.getElem?_toArray, List.getElem?_cons_succ, List.getElem?_cons_zero, Option.some.injEq] at hoi
                    subst hoi
                    have eg : a.eval (.tmp 51) = .bool false := need 7 _ 51 rfl rfl (by kernel_rfl)
                    refine Reg.ob_yes rfl rfl rfl eg ?_
                    have e0 : a.eval (.tmp 0) = .slice (some adb) 512 cap := old 0 (by kernel_rfl)
                    refine Reg.wp_val (W' := W) (v := _) (by simp only [execOp, e0, Reg.eval_const]; rfl) ⟨_, rfl, Bel.refl W, rfl⟩
                  | 12, hoi =>
                    simp only [List.getElem?_toArray, List.getElem?_cons_succ, List.getElem?_cons_zero, Option.some.injEq] at hoi
                    subst hoi
                    have eg : a.eval (.tmp 51) = .bool false := need 7 _ 51 rfl rfl (by kernel_rfl)
                    refine Reg.ob_yes rfl rfl rfl eg ?_
                    have e55 : a.eval (.tmp 55) = .slice (some adb) 512 cap := need 11 _ 55 rfl rfl (by kernel_rfl)
                    have hx := s2a97 W adb cap
                    refine Reg.wp_val (W' := W) (v := .pointer (some adb)) (by simp only [execOp, e55, Sem.run_bind, hx, Result.andThen_ok, Sem.run_pure]) ⟨_, rfl, Bel.refl W, rfl⟩
                  | 13, hoi =>
                    simp only [List.getElem?_toArray, List.getElem?_cons_succ, List.getElem?_cons_zero, Option.some.injEq] at hoi
                    subst hoi
                    have eg : a.eval (.tmp 51) = .bool false := need 7 _ 51 rfl rfl (by kernel_rfl)
                    refine Reg.ob_yes rfl rfl rfl eg ?_
                    have e56 : a.eval (.tmp 56) = .pointer (some adb) := need 12 _ 56 rfl rfl (by kernel_rfl)
                    have hx := load97 W adb b (HCB.out.below hW) H512.out
                    refine Reg.wp_val (W' := W) (v := .agg (b.map (Value.int .u8)).toArray) (by simp only [execOp, e56, Instr.loadAt, Instr.sureAddr, Sem.run_bind, Sem.run_pure, Result.andThen_ok, hx]) ⟨_, rfl, Bel.refl W, rfl⟩
                  | 14, hoi =>
                    simp only [List.getElem?_toArray, List.getElem?_cons_succ, List.getElem?_cons_zero, Option.some.injEq] at hoi
                    subst hoi
                    have eg : a.eval (.tmp 51) = .bool false := need 7 _ 51 rfl rfl (by kernel_rfl)
                    refine Reg.ob_yes rfl rfl rfl eg ?_
                    have e54 : a.eval (.tmp 54) = .agg (PG.map (Value.int .u8)).toArray := need 10 _ 54 rfl rfl (by kernel_rfl)
                    have e57 : a.eval (.tmp 57) = .agg (b.map (Value.int .u8)).toArray := need 13 _ 57 rfl rfl (by kernel_rfl)
                    have hx := equal97 W PG b HLP.out H512.out
                    rw [HEQ.out] at hx
                    refine Reg.wp_val (W' := W) (v := .bool false) (by simp only [execOp, e54, e57, Sem.run_bind, hx, Result.andThen_ok, Sem.run_pure, guard97 W]; try rfl) ⟨_, rfl, Bel.refl W, rfl⟩
                  | 15, hoi =>
                    simp only [List.getElem?_toArray, List.getElem?_cons_succ, List.getElem?_cons_zero, Option.some.injEq] at hoi
                    subst hoi
                    refine Reg.ob_plain rfl ?_
                    have e51 : a.eval (.tmp 51) = .bool false := need 7 _ 51 rfl rfl (by kernel_rfl)
                    have e58 : a.eval (.tmp 58) = .bool false := need 14 _ 58 rfl rfl (by kernel_rfl)
                    refine Reg.wp_val (W' := W) (v := .bool false) (by simp only [execOp, e51, e58, Reg.eval_const, resolve, invoke, builtin, List.map_toArray, List.map_cons, List.map_nil, Option.map_some, Option.map_none]; (first | rfl | go_simp | (go_simp; rfl))) ⟨_, rfl, Bel.refl W, rfl⟩
                  | n + 16, hoi => simp at hoi
                · intro a w9 hW hsize hdef got same did
                  have ha := Reg.act_of [44, 45, 46, 47, 48, 49, 50, 51, 52, 53, 54, 55, 56, 57, 58, 59] hsize hdef same (by kernel_rfl)
                  simp only [List.foldl_cons, List.foldl_nil] at ha
                  generalize a.tmps.getD 44 undef = y44 at ha
                  generalize a.tmps.getD 45 undef = y45 at ha
                  generalize a.tmps.getD 46 undef = y46 at ha
                  generalize a.tmps.getD 47 undef = y47 at ha
                  generalize a.tmps.getD 48 undef = y48 at ha
                  generalize a.tmps.getD 49 undef = y49 at ha
                  generalize a.tmps.getD 50 undef = y50 at ha
                  generalize a.tmps.getD 51 undef = y51 at ha
                  generalize a.tmps.getD 52 undef = y52 at ha
                  generalize a.tmps.getD 53 undef = y53 at ha
                  generalize a.tmps.getD 54 undef = y54 at ha
                  generalize a.tmps.getD 55 undef = y55 at ha
                  generalize a.tmps.getD 56 undef = y56 at ha
                  generalize a.tmps.getD 57 undef = y57 at ha
                  generalize a.tmps.getD 58 undef = y58 at ha
                  have k59 := got 15 _ 59 rfl rfl
                  simp only at k59
                  rw [k59] at ha
                  clear k59
                  clear got same hsize hdef did
                  subst ha
                  simp only [List.setIfInBounds_toArray, List.set_cons_zero, List.set_cons_succ]
                  have hpd := HP6.out.below hW
                  have r0 := hpd.rcell (i := 0) rfl
                  have r1 := hpd.rcell (i := 1) rfl
                  have r2 := hpd.rcell (i := 2) rfl
                  have s0 := hpd.rfree 0
                  have s1 := hpd.rfree 1
                  have s2 := hpd.rfree 2
                  have k0 := hpd.cell (i := 0) rfl
                  have k1 := hpd.cell (i := 1) rfl
                  have k2 := hpd.cell (i := 2) rfl
                  have HPD := Lib.hid hpd
                  have HRO9 := Lib.hid (HRO6.out.below hW)
                  clear hpd n0 n1 n2
                  go_wp2
                  generalize hWF : ((w9.setCell ⟨w.heap.size, 0, none⟩ (Value.bool leaf)).setCell ⟨w.heap.size, 1, none⟩ (Value.int .i64 right)).setCell ⟨w.heap.size, 2, none⟩ (Value.slice A1 xs.length c1) = WF
                  obtain ⟨q1, q2, q3⟩ := PX.end_ HPD.out hWF
                  refine bodyPost_ret (results_list (rs := [.cell 2 55, .tmp 3]) rfl (by simp) (.cell (w.heap.size) 55 _ (0, 0) _ rfl q2 Try.underlying55 rfl (by kernel_rfl) (.tmp .nil))) rfl ?_
                  obtain ⟨A9, c9, e9, h9, hC9⟩ := (q3 _ _ _ HRO9.out).reads
                  injection e9 with e91 e92 e93
                  subst e91
                  have hpn : pv = some (leaf, right, xs) := by have := HPVX.out; rw [if_pos ⟨by first | rfl | trivial, HEB.out⟩] at this; exact this.symm
                  subst hpn
                  have hev : ev = 0 := HEV.out.symm
                  subst hev
                  exact ⟨A1, c1, rfl, hc1, hC9, q1⟩
              · have HBN := Lib.hid hpb
                have HEQ : Hid ((!(PG == b)) = true) := Lib.hid (by simpa using hpb)
                clear hpb
                go_upto_region 11 with (go_at_call 51; refine (HNB.out).mono ?_; rintro e6 w6 ⟨v6, rfl, hr6, hn6, hb6⟩; obtain ⟨A7, c7, rfl, h7, hC7⟩ := page_form hr6 HLP.out; obtain ⟨ad7, had7, _⟩ := hC7.at_ 0 (by rw [HLP.out]; omega); subst had7; have HC7 := Lib.hid hC7; have HP6 := Lib.hid (HP.out.below hb6); have HS6 := Lib.hid (HS.out.below hb6); have HRO6 := Lib.hid (HROX.out.below hb6); have HCB := Lib.hid ((HCB0.out.below HP.out.1).below hb6); clear hr6 hn6 hb6 hC7)
                rw [H512.out]
                refine Reg.region_mono (P := Try.prog) (Ext := Bel) (R := fun i v W => match i with
                    | 0 => v = .pointer (some ⟨g, 0, none⟩)
                    | 1 => v = .int .i64 0
                    | 2 => v = .bool false
                    | 3 => v = .bool false
                    | 4 => v = .slice (some ad7) 512 c7
                    | 5 => v = .bool false
                    | 6 => v = .bool false
                    | 7 => v = .bool false
                    | 8 => v = .slice (some ad7) 512 c7
                    | 9 => v = .pointer (some ad7)
                    | 10 => v = .agg (PG.map (Value.int .u8)).toArray
                    | 11 => v = .slice (some adb) 512 cap
                    | 12 => v = .pointer (some adb)
                    | 13 => v = .agg (b.map (Value.int .u8)).toArray
                    | 14 => v = .bool true
                    | 15 => v = .bool true
                    | _ => True) (fun W => Below w6.heap.size w6 W) rfl (by kernel_rfl) (by kernel_rfl) (Bel.drew w6) (fun W W' h h' => bthen h h') Bel.refl (by intro j v W W' hx h; split at h <;> exact h) ?_ ?_
                · intro i oi hoi a W hW need old
                  match i, hoi with
                  | 0, hoi =>
                    simp only [List.getElem?_toArray, List.getElem?_cons_succ, List.getElem?_cons_zero, Option.some.injEq] at hoi
                    subst hoi
                    refine Reg.ob_plain rfl ?_
                    have e4 : a.eval (.tmp 4) = .pointer (some ⟨g, 0, none⟩) := old 4 (by kernel_rfl)
                    refine Reg.wp_val (W' := W) (v := _) (by simp only [execOp, e4, Reg.eval_const]; rfl) ⟨_, rfl, Bel.refl W, rfl⟩
                  | 1, hoi =>
                    simp only [List.getElem?_toArray, List.getElem?_cons_succ, List.getElem?_cons_zero, Option.some.injEq] at hoi
                    subst hoi
                    refine Reg.ob_plain rfl ?_
                    have e44 : a.eval (.tmp 44) = .pointer (some ⟨g, 0, none⟩) := need 0 _ 44 rfl rfl (by kernel_rfl)
                    refine Reg.wp_call (f := 31) (args := #[.pointer (some ⟨g, 0, none⟩)]) (by simp only [execOp, e44, Reg.eval_const, resolve, invoke, List.map_toArray, List.map_cons, List.map_nil]; go_simp) ?_
                    refine (HE.out W _ _ (HS6.out.below hW)).mono ?_
                    rintro e' W' ⟨rfl, rfl⟩; exact ⟨_, rfl, _, rfl, Bel.refl _, rfl⟩
                  | 2, hoi =>
                    simp only [List.getElem?_toArray, List.getElem?_cons_succ, List.getElem?_cons_zero, Option.some.injEq] at hoi
                    subst hoi
                    refine Reg.ob_plain rfl ?_
                    have e45 : a.eval (.tmp 45) = .int .i64 0 := need 1 _ 45 rfl rfl (by kernel_rfl)
                    refine Reg.wp_val (W' := W) (v := .bool false) (by simp only [execOp, e45, Reg.eval_const, resolve, invoke, builtin, List.map_toArray, List.map_cons, List.map_nil, Option.map_some, Option.map_none]; (first | rfl | go_simp | (go_simp; rfl))) ⟨_, rfl, Bel.refl W, rfl⟩
                  | 3, hoi =>
                    simp only [List.getElem?_toArray, List.getElem?_cons_succ, List.getElem?_cons_zero, Option.some.injEq] at hoi
                    subst hoi
                    refine Reg.ob_plain rfl ?_
                    have e46 : a.eval (.tmp 46) = .bool false := need 2 _ 46 rfl rfl (by kernel_rfl)
                    refine Reg.wp_val (W' := W) (v := _) (by simp only [execOp, e46, Reg.eval_const]; rfl) ⟨_, rfl, Bel.refl W, rfl⟩
                  | 4, hoi =>
                    simp only [List.getElem?_toArray, List.getElem?_cons_succ, List.getElem?_cons_zero, Option.some.injEq] at hoi
                    subst hoi
                    have eg : a.eval (.tmp 47) = .bool false := need 3 _ 47 rfl rfl (by kernel_rfl)
                    refine Reg.ob_yes rfl rfl rfl eg ?_
                    have e7 : a.eval (.tmp 7) = .slice (some ad7) 512 c7 := old 7 (by kernel_rfl)
                    refine Reg.wp_val (W' := W) (v := _) (by simp only [execOp, e7, Reg.eval_const]; rfl) ⟨_, rfl, Bel.refl W, rfl⟩
                  | 5, hoi =>
                    simp only [List.getElem?_toArray, List.getElem?_cons_succ, List.getElem?_cons_zero, Option.some.injEq] at hoi
                    subst hoi
                    have eg : a.eval (.tmp 47) = .bool false := need 3 _ 47 rfl rfl (by kernel_rfl)
                    refine Reg.ob_yes rfl rfl rfl eg ?_
                    have e48 : a.eval (.tmp 48) = .slice (some ad7) 512 c7 := need 4 _ 48 rfl rfl (by kernel_rfl)
                    have hx := eqnil23 W (some ad7) 512 c7
                    refine Reg.wp_val (W' := W) (v := .bool false) (by simp only [execOp, e48, Reg.eval_const, Sem.run_bind, hx, Result.andThen_ok, Sem.run_pure]; rfl) ⟨_, rfl, Bel.refl W, rfl⟩
                  | 6, hoi =>
                    simp only [List.getElem?_toArray, List.getElem?_cons_succ, List.getElem?_cons_zero, Option.some.injEq] at hoi
                    subst hoi
                    refine Reg.ob_plain rfl ?_
                    have e47 : a.eval (.tmp 47) = .bool false := need 3 _ 47 rfl rfl (by kernel_rfl)
                    have e49 : a.eval (.tmp 49) = .bool false := need 5 _ 49 rfl rfl (by kernel_rfl)
                    refine Reg.wp_val (W' := W) (v := .bool false) (by simp only [execOp, e47, e49, Reg.eval_const, resolve, invoke, builtin, List.map_toArray, List.map_cons, List.map_nil, Option.map_some, Option.map_none]; (first | rfl | go_simp | (go_simp; rfl))) ⟨_, rfl, Bel.refl W, rfl⟩
                  | 7, hoi =>
                    simp only [List.getElem?_toArray, List.getElem?_cons_succ, List.getElem?_cons_zero, Option.some.injEq] at hoi
                    subst hoi
                    refine Reg.ob_plain rfl ?_
                    have e50 : a.eval (.tmp 50) = .bool false := need 6 _ 50 rfl rfl (by kernel_rfl)
                    refine Reg.wp_val (W' := W) (v := _) (by simp only [execOp, e50, Reg.eval_const]; rfl) ⟨_, rfl, Bel.refl W, rfl⟩
                  | 8, hoi =>
                    simp only [List.getElem?_toArray, List.getElem?_cons_succ, List.getElem?_cons_zero, Option.some.injEq] at hoi
                    subst hoi
                    have eg : a.eval (.tmp 51) = .bool false := need 7 _ 51 rfl rfl (by kernel_rfl)
                    refine Reg.ob_yes rfl rfl rfl eg ?_
                    have e7 : a.eval (.tmp 7) = .slice (some ad7) 512 c7 := old 7 (by kernel_rfl)
                    refine Reg.wp_val (W' := W) (v := _) (by simp only [execOp, e7, Reg.eval_const]; rfl) ⟨_, rfl, Bel.refl W, rfl⟩
                  | 9, hoi =>
                    simp only [List.getElem?_toArray, List.getElem?_cons_succ, List.getElem?_cons_zero, Option.some.injEq] at hoi
                    subst hoi
                    have eg : a.eval (.tmp 51) = .bool false := need 7 _ 51 rfl rfl (by kernel_rfl)
                    refine Reg.ob_yes rfl rfl rfl eg ?_
                    have e52 : a.eval (.tmp 52) = .slice (some ad7) 512 c7 := need 8 _ 52 rfl rfl (by kernel_rfl)
                    have hx := s2a97 W ad7 c7
                    refine Reg.wp_val (W' := W) (v := .pointer (some ad7)) (by simp only [execOp, e52, Sem.run_bind, hx, Result.andThen_ok, Sem.run_pure]) ⟨_, rfl, Bel.refl W, rfl⟩
                  | 10, hoi =>
                    simp only [List.getElem?_toArray, List.getElem?_cons_succ, List.getElem?_cons_zero, Option.some.injEq] at hoi
                    subst hoi
                    have eg : a.eval (.tmp 51) = .bool false := need 7 _ 51 rfl rfl (by kernel_rfl)
                    refine Reg.ob_yes rfl rfl rfl eg ?_
                    have e53 : a.eval (.tmp 53) = .pointer (some ad7) := need 9 _ 53 rfl rfl (by kernel_rfl)
                    have hx := load97 W ad7 PG (HC7.out.below hW) HLP.out
                    refine Reg.wp_val (W' := W) (v := .agg (PG.map (Value.int .u8)).toArray) (by simp only [execOp, e53, Instr.loadAt, Instr.sureAddr, Sem.run_bind, Sem.run_pure, Result.andThen_ok, hx]) ⟨_, rfl, Bel.refl W, rfl⟩
                  | 11, hoi =>
                    simp only [List.getElem?_toArray, List.getElem?_cons_succ, List.getElem?_cons_zero, Option.some.injEq] at hoi
                    subst hoi
                    have eg : a.eval (.tmp 51) = .bool false := need 7 _ 51 rfl rfl (by kernel_rfl)
                    refine Reg.ob_yes rfl rfl rfl eg ?_
                    have e0 : a.eval (.tmp 0) = .slice (some adb) 512 cap := old 0 (by kernel_rfl)
                    refine Reg.wp_val (W' := W) (v := _) (by simp only [execOp, e0, Reg.eval_const]; rfl) ⟨_, rfl, Bel.refl W, rfl⟩
                  | 12, hoi =>
                    simp only [List.getElem?_toArray, List.getElem?_cons_succ, List.getElem?_cons_zero, Option.some.injEq] at hoi
                    subst hoi
                    have eg : a.eval (.tmp 51) = .bool false := need 7 _ 51 rfl rfl (by kernel_rfl)
                    refine Reg.ob_yes rfl rfl rfl eg ?_
                    have e55 : a.eval (.tmp 55) = .slice (some adb) 512 cap := need 11 _ 55 rfl rfl (by kernel_rfl)
                    have hx := s2a97 W adb cap
                    refine Reg.wp_val (W' := W) (v := .pointer (some adb)) (by simp only [execOp, e55, Sem.run_bind, hx, Result.andThen_ok, Sem.run_pure]) ⟨_, rfl, Bel.refl W, rfl⟩
                  | 13, hoi =>
                    simp only [List.getElem?_toArray, List.getElem?_cons_succ, List.getElem?_cons_zero, Option.some.injEq] at hoi
                    subst hoi
                    have eg : a.eval (.tmp 51) = .bool false := need 7 _ 51 rfl rfl (by kernel_rfl)
                    refine Reg.ob_yes rfl rfl rfl eg ?_
                    have e56 : a.eval (.tmp 56) = .pointer (some adb) := need 12 _ 56 rfl rfl (by kernel_rfl)
                    have hx := load97 W adb b (HCB.out.below hW) H512.out
                    refine Reg.wp_val (W' := W) (v := .agg (b.map (Value.int .u8)).toArray) (by simp only [execOp, e56, Instr.loadAt, Instr.sureAddr, Sem.run_bind, Sem.run_pure, Result.andThen_ok, hx]) ⟨_, rfl, Bel.refl W, rfl⟩
                  | 14, hoi =>
                    simp only [List.getElem?_toArray, List.getElem?_cons_succ, List.getElem?_cons_zero, Option.some.injEq] at hoi
                    subst hoi
                    have eg : a.eval (.tmp 51) = .bool false := need 7 _ 51 rfl rfl (by kernel_rfl)
                    refine Reg.ob_yes rfl rfl rfl eg ?_
                    have e54 : a.eval (.tmp 54) = .agg (PG.map (Value.int .u8)).toArray := need 10 _ 54 rfl rfl (by kernel_rfl)
                    have e57 : a.eval (.tmp 57) = .agg (b.map (Value.int .u8)).toArray := need 13 _ 57 rfl rfl (by kernel_rfl)
                    have hx := equal97 W PG b HLP.out H512.out
                    rw [HEQ.out] at hx
                    refine Reg.wp_val (W' := W) (v := .bool true) (by simp only [execOp, e54, e57, Sem.run_bind, hx, Result.andThen_ok, Sem.run_pure, guard97 W]; try rfl) ⟨_, rfl, Bel.refl W, rfl⟩
                  | 15, hoi =>
                    simp only [List.getElem?_toArray, List.getElem?_cons_succ, List.getElem?_cons_zero, Option.some.injEq] at hoi
                    subst hoi
                    refine Reg.ob_plain rfl ?_
                    have e51 : a.eval (.tmp 51) = .bool false := need 7 _ 51 rfl rfl (by kernel_rfl)
                    have e58 : a.eval (.tmp 58) = .bool true := need 14 _ 58 rfl rfl (by kernel_rfl)
                    refine Reg.wp_val (W' := W) (v := .bool true) (by simp only [execOp, e51, e58, Reg.eval_const, resolve, invoke, builtin, List.map_toArray, List.map_cons, List.map_nil, Option.map_some, Option.map_none]; (first | rfl | go_simp | (go_simp; rfl))) ⟨_, rfl, Bel.refl W, rfl⟩
                  | n + 16, hoi => simp at hoi
                · intro a w9 hW hsize hdef got same did
                  have ha := Reg.act_of [44, 45, 46, 47, 48, 49, 50, 51, 52, 53, 54, 55, 56, 57, 58, 59] hsize hdef same (by kernel_rfl)
                  simp only [List.foldl_cons, List.foldl_nil] at ha
                  generalize a.tmps.getD 44 undef = y44 at ha
                  generalize a.tmps.getD 45 undef = y45 at ha
                  generalize a.tmps.getD 46 undef = y46 at ha
                  generalize a.tmps.getD 47 undef = y47 at ha
                  generalize a.tmps.getD 48 undef = y48 at ha
                  generalize a.tmps.getD 49 undef = y49 at ha
                  generalize a.tmps.getD 50 undef = y50 at ha
                  generalize a.tmps.getD 51 undef = y51 at ha
                  generalize a.tmps.getD 52 undef = y52 at ha
                  generalize a.tmps.getD 53 undef = y53 at ha
                  generalize a.tmps.getD 54 undef = y54 at ha
                  generalize a.tmps.getD 55 undef = y55 at ha
                  generalize a.tmps.getD 56 undef = y56 at ha
                  generalize a.tmps.getD 57 undef = y57 at ha
                  generalize a.tmps.getD 58 undef = y58 at ha
                  have k59 := got 15 _ 59 rfl rfl
                  simp only at k59
                  rw [k59] at ha
                  clear k59
                  clear got same hsize hdef did
                  subst ha
                  simp only [List.setIfInBounds_toArray, List.set_cons_zero, List.set_cons_succ]
                  have hpd := HP6.out.below hW
                  have r0 := hpd.rcell (i := 0) rfl
                  have r1 := hpd.rcell (i := 1) rfl
                  have r2 := hpd.rcell (i := 2) rfl
                  have s0 := hpd.rfree 0
                  have s1 := hpd.rfree 1
                  have s2 := hpd.rfree 2
                  have HPD := Lib.hid hpd
                  clear hpd n0 n1 n2
                  go_wp2
                  generalize hWF : (((w9).setCell ⟨w.heap.size, 0, none⟩ (Value.bool false)).setCell ⟨w.heap.size, 1, none⟩ (Value.int .i64 0)).setCell ⟨w.heap.size, 2, none⟩ (Value.slice none 0 0) = WF
                  obtain ⟨q1, q2, _⟩ := PX.end_ HPD.out hWF
                  refine bodyPost_ret (results_list (rs := [.cell 2 55, .tmp 3]) rfl (by simp) (.cell (w.heap.size) 55 _ (0, 0) _ rfl q2 Try.underlying55 rfl (by kernel_rfl) (.tmp .nil))) rfl ?_
                  have hpn : pv = none := by have := HPVX.out; rw [if_neg (fun h => HBN.out h.2)] at this; exact this.symm
                  subst hpn
                  have hev : ev = 9 := HEV.out.symm
                  subst hev
                  exact ⟨none, 0, rfl, Nat.le_refl _, Kd.C_nil _ _, q1⟩
          · have b2' : (er != 0) = true := by simpa using her
            have HER := Lib.hid her
            clear her hgo
            go_upto_region 11 with (go_at_call 51; refine (HNB.out).mono ?_; rintro e6 w6 ⟨v6, rfl, hr6, hn6, hb6⟩; have HR6 := Lib.hid hr6; have HN6 := Lib.hid hn6; have HP6 := Lib.hid (HP.out.below hb6); have HS6 := Lib.hid (HS.out.below hb6); have HC6 := Lib.hid (Kd.C_below HCX.out hb6); clear hr6 hn6 hb6)
            go_quiet ((go_at_call 31; exact (HE.out _ _ _ (HS6.out.below (pw_below_drewN (Below.refl _ _) _))).mono fun e w0 h => ⟨h.1, _, h.2.symm⟩))
            have hpd := HP6.out.below (pw_below_drewN (Below.refl _ _) nq)
            have r0 := hpd.rcell (i := 0) rfl
            have r1 := hpd.rcell (i := 1) rfl
            have r2 := hpd.rcell (i := 2) rfl
            have s0 := hpd.rfree 0
            have s1 := hpd.rfree 1
            have s2 := hpd.rfree 2
            have HPD := Lib.hid hpd
            clear hpd n0 n1 n2
            go_wp2
            generalize hWF : (((w6.drewN nq).setCell ⟨w.heap.size, 0, none⟩ (Value.bool false)).setCell ⟨w.heap.size, 1, none⟩ (Value.int .i64 0)).setCell ⟨w.heap.size, 2, none⟩ (Value.slice none 0 0) = WF
            obtain ⟨q1, q2, _⟩ := PX.end_ HPD.out hWF
            refine bodyPost_ret (results_list (rs := [.cell 2 55, .tmp 3]) rfl (by simp) (.cell (w.heap.size) 55 _ (0, 0) _ rfl q2 Try.underlying55 rfl (by kernel_rfl) (.tmp .nil))) rfl ?_
            have hpn : pv = none := by have := HPVX.out; rw [if_neg (fun h => HER.out h.1)] at this; exact this.symm
            subst hpn
            have hev : ev = 9 := HEV.out.symm
            subst hev
            exact ⟨none, 0, rfl, Nat.le_refl _, Kd.C_nil _ _, q1⟩
  · have hpn : pv = none := by rw [← hpv]; unfold parseV; rw [if_neg h512]
    rw [hpv]
    subst hpn
    obtain ⟨ev, hev⟩ : ∃ ev, errV none = ev := ⟨_, rfl⟩
    rw [hev]
    have hev9 : ev = 9 := hev.symm
    have hne : ((b.length : Int) != 512) = true := by simp; omega
    clear hpv hev hC hb
    have z1 := heap_alloc_new w (Obj.cells #[Value.bool false, Value.int .i64 0, Value.slice none 0 0] 55)
    have r0 : (w.alloc (Obj.cells #[Value.bool false, Value.int .i64 0, Value.slice none 0 0] 55)).cell? ⟨w.heap.size, 0, none⟩ = some (.bool false) := cell_of_row _ _ 0 _ 55 (0, 0) z1
    have r1 : (w.alloc (Obj.cells #[Value.bool false, Value.int .i64 0, Value.slice none 0 0] 55)).cell? ⟨w.heap.size, 1, none⟩ = some (.int .i64 0) := cell_of_row _ _ 1 _ 55 (0, 0) z1
    have r2 : (w.alloc (Obj.cells #[Value.bool false, Value.int .i64 0, Value.slice none 0 0] 55)).cell? ⟨w.heap.size, 2, none⟩ = some (.slice none 0 0) := cell_of_row _ _ 2 _ 55 (0, 0) z1
    have s0 := blk_frozen z1 0
    have s1 := blk_frozen z1 1
    have s2 := blk_frozen z1 2
    have HZ := Lib.hid z1
    clear z1
    go_enter Try.func45, Try.ntmps45
    go_wp2
    refine bodyPost_ret (results_list (rs := [.cell 2 55, .tmp 3]) rfl (by simp) (.cell (w.heap.size) 55 _ (0, 0) _ rfl HZ.out Try.underlying55 rfl (by kernel_rfl) (.tmp .nil))) rfl ?_
    subst hev9
    exact ⟨none, 0, rfl, Nat.le_refl _, Kd.C_nil _ _, (Below.refl _ _).alloc (Nat.le_refl _) _⟩
end Go.Proofs.Ytlfcgicobhalmaa.K
