/- cell.next, walked; rows of cells of the call's own. -/
import Derived.Test.YtlfcgicobhalmaaBase2
import Derived.Test.YtlfcgicobhalmaaWSrc2
import Derived.Test.YtlfcgicobhalmaaWBack
import Derived.Test.YtlfcgicobhalmaaWZig
import Derived.Test.YtlfcgicobhalmaaWLaw02
import Derived.Test.YtlfcgicobhalmaaMNode
import Derived.Test.YtlfcgicobhalmaaOps
import Derived.Test.YtlfcgicobhalmaaRegGen
import Derived.Test.YtlfcgicobhalmaaWZeros
import Derived.Test.YtlfcgicobhalmaaWRow
import Derived.Test.YtlfcgicobhalmaaWCell
import Derived.Test.YtlfcgicobhalmaaWCellG
import Derived.Test.YtlfcgicobhalmaaWCellB
import Derived.Test.YtlfcgicobhalmaaWCellZ
import Derived.Test.YtlfcgicobhalmaaWCellP
namespace Go.Proofs.Ytlfcgicobhalmaa.K
open Go Go.RowKit Go.Proofs.YtlfcgicobhalmaaW.PrintWords Go.Proofs.YtlfcgicobhalmaaW.PrintLast Go.Proofs.YtlfcgicobhalmaaW.PrintMore
set_option linter.unusedVariables false
set_option linter.unusedSimpArgs false
open Go.Proofs.Ytlfcgicobhalmaa.MOct (W V tk sz vr num head getV le be many putL)
open Go.Proofs.Ytlfcgicobhalmaa.MOct (Cel isPageV localV spillsV insideV leafyV mayV goodFrom goodV u64 csize cbytes nsize nbody nbytes findV)

/-- What next reads: a cell, what is left, the error. -/
def nextV (leaf : Bool) (l : List Int) (e : Int) : Cel × List Int × Int :=
  if leaf then
    let a := varS true l e 18446744073709551615
    let b := varS true a.2.1 a.2.2 20000
    let c := bytesS true b.2.1 b.2.2 (localV b.1)
    if spillsV (MOct.zag a.1, 0, b.1, c.1, 0) then
      let d := numS true c.2.1 c.2.2 4 false
      ((MOct.zag a.1, 0, b.1, c.1, d.1), d.2)
    else ((MOct.zag a.1, 0, b.1, c.1, 0), c.2)
  else
    let a := numS true l e 4 false
    let b := varS true a.2.1 a.2.2 18446744073709551615
    ((MOct.zag b.1, a.1, 0, [], 0), b.2)
theorem Src.set {w : World} {g : Nat} {l : List Int} {e : Int} (h : Src w g true l e) {k t : Nat} {cs : Array Value} (hk : g ≠ k) (hb : w.heap[k]? = some (.cells cs t (0, 0))) (hcs : ∀ v ∈ cs, ∀ x, v ≠ .int .u8 x) (i : Nat) (u : Value) : Src (w.setCell ⟨k, i, none⟩ u) g true l e :=
  h.only h.lt hk (only_setCell (g := k) (World.grownBy.refl _ _) (.inl rfl) _) (fun A hA => hA.only hb hcs (only_setCell (g := k) (World.grownBy.refl _ _) (.inl rfl) _))
theorem RB.set {w0 w : World} {v : Value} {l : List Int} (h : RB w0 w v l) {k t : Nat} {cs : Array Value} (hb : w.heap[k]? = some (.cells cs t (0, 0))) (ht : 5 ≠ t) (i : Nat) (u : Value) : RB w0 (w.setCell ⟨k, i, none⟩ u) v l :=
  Kd.R_grown1 h rfl (only_setCell (g := k) (World.grownBy.refl _ _) (.inl rfl) _) (own_ne (Kd.own_of_R h) hb ht)
theorem RB.src {w0 w w' : World} {v : Value} {l bs : List Int} {g : Nat} {e : Int} (h : RB w0 w v bs) (hs : Src w g true l e) (hg : w.grownBy w' (some g)) : RB w0 w' v bs := by
  obtain ⟨A, c, h1, _⟩ := hs
  exact Kd.R_grown1 h rfl hg (own_ne (Kd.own_of_R h) h1 (by decide))
/-- The worlds within next: three blocks of its own, and the source's that turns. -/
def NX (W w' : World) (g : Nat) (cs : Array Value) : Prop := W.grownBy w' (some g) ∧ g < W.heap.size ∧ w'.heap[W.heap.size]? = some (.cells #[.pointer (some ⟨g, 0, none⟩)] 43 (0, 0)) ∧
  w'.heap[W.heap.size + 1]? = some (.cells #[.int .i64 0, .int .i64 0, .int .i64 0, .slice none 0 0, .int .i64 0] 87 (0, 0)) ∧ w'.heap[W.heap.size + 1 + 1]? = some (.cells cs 87 (0, 0))
theorem NX.step {W w' w'' : World} {g : Nat} {cs : Array Value} (h : NX W w' g cs) (hg : w'.grownBy w'' (some g)) : NX W w'' g cs := by
  obtain ⟨h1, h2, h3, h4, h5⟩ := h
  have key : ∀ i o, W.heap.size ≤ i → w'.heap[i]? = some o → w''.heap[i]? = some o := fun i o hi ho => (hg.block i (blk_lt ho) (fun e => by have := Option.some.inj e; omega)).trans ho
  exact ⟨grown2 h1 hg, h2, key _ _ (by omega) h3, key _ _ (by omega) h4, key _ _ (by omega) h5⟩
theorem NX.set {W w' : World} {g : Nat} {cs : Array Value} (h : NX W w' g cs) (i : Nat) (u : Value) : NX W (w'.setCell ⟨W.heap.size + 1 + 1, i, none⟩ u) g (cs.setIfInBounds i u) := by
  obtain ⟨h1, h2, h3, h4, h5⟩ := h
  exact ⟨only_setCell h1 (.inr (by show W.heap.size ≤ W.heap.size + 1 + 1; omega)) _, h2, blk_far h3 (by show W.heap.size ≠ W.heap.size + 1 + 1; omega) _, blk_far h4 (by show W.heap.size + 1 ≠ W.heap.size + 1 + 1; omega) _, blk_set h5 i u⟩
theorem NX.cell {W w' : World} {g : Nat} {cs : Array Value} (h : NX W w' g cs) {i : Nat} {u : Value} (hi : cs[i]? = some u) : w'.cell? ⟨W.heap.size + 1 + 1, i, none⟩ = some u := (cell_of_row w' _ i _ 87 (0, 0) h.2.2.2.2).trans hi
theorem NX.free {W w' : World} {g : Nat} {cs : Array Value} (h : NX W w' g cs) (i : Nat) : w'.frozen? ⟨W.heap.size + 1 + 1, i, none⟩ = false := blk_frozen h.2.2.2.2 i
theorem NX.src {W w' : World} {g : Nat} {cs : Array Value} (h : NX W w' g cs) : w'.cell? ⟨W.heap.size, 0, none⟩ = some (.pointer (some ⟨g, 0, none⟩)) := cell_of_row w' _ 0 _ 43 (0, 0) h.2.2.1
theorem NX.setSrc {W w' : World} {g : Nat} {cs : Array Value} {l : List Int} {e : Int} (h : NX W w' g cs) (hs : Src w' g true l e) (hcs : ∀ v ∈ cs, ∀ x, v ≠ .int .u8 x) (i : Nat) (u : Value) : Src (w'.setCell ⟨W.heap.size + 1 + 1, i, none⟩ u) g true l e :=
  hs.set (by have := h.2.1; omega) h.2.2.2.2 hcs i u
theorem NX.rcell {W w' : World} {g : Nat} {cs : Array Value} (h : NX W w' g cs) {i : Nat} {u : Value} (hi : #[Value.int .i64 0, .int .i64 0, .int .i64 0, .slice none 0 0, .int .i64 0][i]? = some u) : w'.cell? ⟨W.heap.size + 1, i, none⟩ = some u := (cell_of_row w' _ i _ 87 (0, 0) h.2.2.2.1).trans hi
theorem NX.rfree {W w' : World} {g : Nat} {cs : Array Value} (h : NX W w' g cs) (i : Nat) : w'.frozen? ⟨W.heap.size + 1, i, none⟩ = false := blk_frozen h.2.2.2.1 i
/-- The end: the result's cells are laid. -/
theorem NX.end_ {W w' : World} {g : Nat} {a b c d f : Value} {l : List Int} {e : Int} (h : NX W w' g #[a, b, c, d, f]) (hs : Src w' g true l e)
    (hcs : ∀ v ∈ #[a, b, c, d, f], ∀ x, v ≠ .int .u8 x) {WF : World} (hWF : ((((w'.setCell ⟨W.heap.size + 1, 0, none⟩ a).setCell ⟨W.heap.size + 1, 1, none⟩ b).setCell ⟨W.heap.size + 1, 2, none⟩ c).setCell ⟨W.heap.size + 1, 3, none⟩ d).setCell ⟨W.heap.size + 1, 4, none⟩ f = WF) :
    W.grownBy WF (some g) ∧ WF.heap[W.heap.size + 1]? = some (.cells #[a, b, c, d, f] 87 (0, 0)) ∧ Src WF g true l e ∧ (∀ v bs, RB W w' v bs → RB W WF v bs) := by
  obtain ⟨h1, h2, h3, h4, h5⟩ := h
  subst hWF
  have hz : ∀ v ∈ #[Value.int .i64 0, .int .i64 0, .int .i64 0, .slice none 0 0, .int .i64 0], ∀ x, v ≠ .int .u8 x := by
    intro v hv x; simp only [List.mem_toArray, List.mem_cons, List.not_mem_nil, or_false] at hv
    rcases hv with rfl | rfl | rfl | rfl | rfl <;> simp
  have ha : ∀ x, a ≠ .int .u8 x := hcs a (by simp)
  have hb : ∀ x, b ≠ .int .u8 x := hcs b (by simp)
  have hc : ∀ x, c ≠ .int .u8 x := hcs c (by simp)
  have hd : ∀ x, d ≠ .int .u8 x := hcs d (by simp)
  have up : ∀ (cs : Array Value) (i : Nat) (u : Value), (∀ v ∈ cs, ∀ x, v ≠ .int .u8 x) → (∀ x, u ≠ .int .u8 x) → ∀ v ∈ cs.setIfInBounds i u, ∀ x, v ≠ .int .u8 x := by
    intro cs i u h1 h2 v hv x
    rcases Array.mem_or_eq_of_mem_setIfInBounds hv with h | rfl
    · exact h1 v h x
    · exact h2 x
  have b0 : W.heap.size ≤ W.heap.size + 1 := by omega
  have ne : g ≠ W.heap.size + 1 := by omega
  have e1 := blk_set h4 0 a
  have e2 := blk_set e1 1 b
  have e3 := blk_set e2 2 c
  have e4 := blk_set e3 3 d
  have e5 := blk_set e4 4 f
  have u1 := up _ 0 a hz ha
  have u2 := up _ 1 b u1 hb
  have u3 := up _ 2 c u2 hc
  have u4 := up _ 3 d u3 hd
  refine ⟨only_setCell (only_setCell (only_setCell (only_setCell (only_setCell h1 (.inr b0) _) (.inr b0) _) (.inr b0) _) (.inr b0) _) (.inr b0) _, ?_, ?_, ?_⟩
  · simpa using e5
  · exact ((((hs.set ne h4 hz 0 a).set ne e1 u1 1 b).set ne e2 u2 2 c).set ne e3 u3 3 d).set ne e4 u4 4 f
  · intro v bs hr
    exact ((((hr.set h4 (by decide) 0 a).set e1 (by decide) 1 b).set e2 (by decide) 2 c).set e3 (by decide) 3 d).set e4 (by decide) 4 f

theorem bytesOk_drop9 {l : List Int} (h : bytesOk l) (n : Nat) : bytesOk (l.drop n) := fun x hx => h x (List.mem_of_mem_drop hx)
theorem numS_ok {l : List Int} {e sz : Int} {b : Bool} (h : bytesOk l) : bytesOk (numS true l e sz b).2.1 := by
  unfold numS
  split
  · exact h
  · split
    · exact bytesOk_nil
    · split
      · exact bytesOk_drop9 h _
      · exact bytesOk_nil
theorem varS_ok {l : List Int} {e gr : Int} (h : bytesOk l) : bytesOk (varS true l e gr).2.1 := by
  unfold varS
  split
  · exact h
  · simp only
    split
    · exact bytesOk_drop9 h _
    · exact bytesOk_nil
theorem bytesS_ok {l : List Int} {e n : Int} (h : bytesOk l) : bytesOk (bytesS true l e n).2.1 := by
  unfold bytesS
  split
  · exact h
  · simp only
    split
    · exact bytesOk_drop9 h _
    · exact bytesOk_nil
theorem numS_le {l : List Int} {e sz : Int} {b : Bool} : (numS true l e sz b).2.1.length ≤ l.length := by
  unfold numS
  split
  · exact Nat.le_refl _
  · split
    · simp
    · split <;> simp
theorem varS_le {l : List Int} {e gr : Int} : (varS true l e gr).2.1.length ≤ l.length := by
  unfold varS
  split
  · exact Nat.le_refl _
  · simp only
    split <;> simp
theorem bytesS_le {l : List Int} {e n : Int} : (bytesS true l e n).2.1.length ≤ l.length ∧ (bytesS true l e n).1.length ≤ l.length := by
  unfold bytesS bytesR
  by_cases h1 : true = false ∨ e ≠ 0
  · rw [if_pos h1]; simp
  · rw [if_neg h1]
    by_cases h2 : n < 0
    · rw [if_pos h2]; simp
    · rw [if_neg h2]
      by_cases h3 : n > l.length
      · rw [if_pos h3]; simp
      · rw [if_neg h3]; simp; omega
theorem NX.start (W : World) (g : Nat) (hlt : g < W.heap.size) : NX W (((W.alloc (.cells #[.pointer (some ⟨g, 0, none⟩)] 43)).alloc (.cells #[.int .i64 0, .int .i64 0, .int .i64 0, .slice none 0 0, .int .i64 0] 87)).alloc (.cells #[.int .i64 0, .int .i64 0, .int .i64 0, .slice none 0 0, .int .i64 0] 87)) g #[.int .i64 0, .int .i64 0, .int .i64 0, .slice none 0 0, .int .i64 0] := by
  obtain ⟨h1, h2, h3⟩ := three W (.cells #[.pointer (some ⟨g, 0, none⟩)] 43) (.cells #[.int .i64 0, .int .i64 0, .int .i64 0, .slice none 0 0, .int .i64 0] 87) (.cells #[.int .i64 0, .int .i64 0, .int .i64 0, .slice none 0 0, .int .i64 0] 87)
  exact ⟨only_alloc (only_alloc (only_alloc (World.grownBy.refl _ _) _) _) _, hlt, h1, h2, h3⟩
theorem no8 {a b c d f : Value} (ha : ∀ x, a ≠ .int .u8 x) (hb : ∀ x, b ≠ .int .u8 x) (hc : ∀ x, c ≠ .int .u8 x) (hd : ∀ x, d ≠ .int .u8 x) (hf : ∀ x, f ≠ .int .u8 x) : ∀ v ∈ #[a, b, c, d, f], ∀ x, v ≠ .int .u8 x := by
  intro v hv x
  simp only [List.mem_toArray, List.mem_cons, List.not_mem_nil, or_false] at hv
  rcases hv with rfl | rfl | rfl | rfl | rfl
  · exact ha x
  · exact hb x
  · exact hc x
  · exact hd x
  · exact hf x
theorem num4 {l : List Int} {e : Int} (h : bytesOk l) : 0 ≤ (numS true l e 4 false).1 ∧ (numS true l e 4 false).1 < 4294967296 := by
  unfold numS
  split
  · exact ⟨by simp, by simp⟩
  · split
    · exact ⟨by simp, by simp⟩
    · split
      · rename_i h3
        unfold MOct.getV at h3 ⊢
        split
        · exact ⟨by simp, by simp⟩
        · rename_i h4
          have hl : (4 : Int).toNat ≤ l.length := by omega
          have h5 := MOct.num_range (MOct.head l (4 : Int).toNat false) (MOct.head_range l _ false h)
          rw [MOct.head_length l _ false hl] at h5
          exact ⟨h5.1, by have := h5.2; simpa using this⟩
      · exact ⟨by simp, by simp⟩
theorem varS_range {l : List Int} {e gr : Int} (h : bytesOk l) (hg : 0 ≤ gr) : 0 ≤ (varS true l e gr).1 ∧ (varS true l e gr).1 ≤ gr := by
  unfold varS
  split
  · exact ⟨by simp, hg⟩
  · unfold varR
    split
    · exact ⟨by simp, hg⟩
    · split
      · exact ⟨by simp, hg⟩
      · refine ⟨?_, by simp; omega⟩
        rcases MOct.take_tells l h with h1 | ⟨n, k, h1, _, _, h2, _⟩
        · rw [h1]; simp
        · rw [h1]; exact h2
theorem page81_calls (w : World) (g b : Nat) (l : List Int) (e : Int) (h : Src w g true l e) (hb : bytesOk l) (hx : w.cell? ⟨b, 0, none⟩ = some (.pointer (some ⟨g, 0, none⟩))) :
    Calls Try.prog 81 #[.pointer (some ⟨b, 0, none⟩)] w fun e' w' => e' = .returned (.int .i64 (numS true l e 4 false).1) ∧ w.grownBy w' (some g) ∧ Src w' g true (numS true l e 4 false).2.1 (numS true l e 4 false).2.2 := by
  have HN := Lib.hid (Num_calls w g true l e 4 false h hb)
  have h4 := num4 (e := e) hb
  obtain ⟨r, hr⟩ : ∃ r, numS true l e 4 false = r := ⟨_, rfl⟩
  rw [hr] at HN h4 ⊢
  obtain ⟨n, l', e2⟩ := r
  simp only at h4 ⊢
  clear h hb hr
  go_enter Try.func81, Try.ntmps81
  go_wp2_with (go_at_call 25; refine (HN.out).mono ?_; rintro e' w1 ⟨rfl, hg, hs⟩; have HG := Lib.hid hg; have HS := Lib.hid hs; clear hg hs)
  go_ret
  exact ⟨rfl, HG.out, HS.out⟩
set_option maxHeartbeats 1000000 in
set_option maxRecDepth 100000 in
theorem next_inner (W : World) (g : Nat) (l : List Int) (e : Int) (h : Src W g true l e) (hb : bytesOk l) :
    Calls Try.prog 66 #[.pointer (some ⟨g, 0, none⟩), .bool false] W fun e' w' => e' = .returned (.agg #[.int .i64 (nextV false l e).1.1, .int .i64 (nextV false l e).1.2.1, .int .i64 0, .slice none 0 0, .int .i64 0]) ∧ W.grownBy w' (some g) ∧ Src w' g true (nextV false l e).2.1 (nextV false l e).2.2 := by
  have hlt := h.lt
  have h4 := num4 (e := e) hb
  have HP := Lib.hid (fun w b (hs : Src w g true l e) hx => page81_calls w g b l e hs hb hx)
  have hb1 : bytesOk (numS true l e 4 false).2.1 := numS_ok hb
  unfold nextV
  simp only [Bool.false_eq_true, if_false]
  obtain ⟨r, hr⟩ : ∃ r, numS true l e 4 false = r := ⟨_, rfl⟩
  rw [hr] at HP h4 hb1 ⊢
  obtain ⟨ch, l1, e1⟩ := r
  simp only at h4 hb1 HP ⊢
  have HV := Lib.hid (fun w (hs : Src w g true l1 e1) => Var_calls w g true l1 e1 18446744073709551615 hs hb1)
  have hvr := varS_range (e := e1) (gr := 18446744073709551615) hb1 (by decide)
  obtain ⟨r, hr2⟩ : ∃ r, varS true l1 e1 18446744073709551615 = r := ⟨_, rfl⟩
  rw [hr2] at HV hvr ⊢
  obtain ⟨z, l2, e2⟩ := r
  simp only at hvr HV ⊢
  have HZ := Lib.hid (fun w => Zag_calls z w hvr.1 (by omega))
  obtain ⟨zk, hzk⟩ : ∃ zk, MOct.zag z = zk := ⟨_, rfl⟩
  rw [hzk] at HZ ⊢
  have HS0 := Lib.hid h
  clear hr hr2 hzk hvr hb1 h hb
  go_enter Try.func66, Try.ntmps66
  go_upto_region 5 with (fail)
  have hn0 := NX.start W g hlt
  have HSb : Hid (Src (((W.alloc (.cells #[.pointer (some ⟨g, 0, none⟩)] 43)).alloc (.cells #[.int .i64 0, .int .i64 0, .int .i64 0, .slice none 0 0, .int .i64 0] 87)).alloc (.cells #[.int .i64 0, .int .i64 0, .int .i64 0, .slice none 0 0, .int .i64 0] 87)) g true l e) := Lib.hid (HS0.out.below ((((Below.refl _ _).alloc (Nat.le_refl _) _).alloc (by simp) _).alloc (by simp; omega) _))
  generalize hW0 : ((W.alloc (Obj.cells #[Value.pointer (some ⟨g, 0, none⟩)] 43)).alloc (Obj.cells #[Value.int .i64 0, Value.int .i64 0, Value.int .i64 0, Value.slice none 0 0, Value.int .i64 0] 87)).alloc (Obj.cells #[Value.int .i64 0, Value.int .i64 0, Value.int .i64 0, Value.slice none 0 0, Value.int .i64 0] 87) = W0
  rw [hW0] at hn0 HSb
  have y0 := hn0.src
  have HN0 := Lib.hid hn0
  clear hW0 hn0 HS0
  go_wp2_with (first
    | (go_at_call 23; refine (HZ.out _).mono ?_; rintro e' w3 ⟨rfl, rfl⟩)
    | (go_at_call 27; refine (HV.out _ HS1.out).mono ?_; rintro e' w2 ⟨rfl, hg2, hs2⟩; have hn2 := HN1.out.step hg2; have d0 := hn2.cell (i := 0) rfl; have d1 := hn2.cell (i := 1) rfl; have d2 := hn2.cell (i := 2) rfl; have d3 := hn2.cell (i := 3) rfl; have d4 := hn2.cell (i := 4) rfl; have fr0 := hn2.free 0; have r0 := hn2.rcell (i := 0) rfl; have r1 := hn2.rcell (i := 1) rfl; have r2 := hn2.rcell (i := 2) rfl; have r3 := hn2.rcell (i := 3) rfl; have r4 := hn2.rcell (i := 4) rfl; have s0 := hn2.rfree 0; have s1 := hn2.rfree 1; have s2 := hn2.rfree 2; have s3 := hn2.rfree 3; have s4 := hn2.rfree 4; have HN2 := Lib.hid hn2; have HS2 := Lib.hid hs2; clear hg2 hs2 hn2)
    | (go_at_call 81; refine (HP.out _ _ HSb.out y0).mono ?_; rintro e' w1 ⟨rfl, hg1, hs1⟩; have hn1 := HN0.out.step hg1; have c0 := hn1.cell (i := 0) rfl; have c1 := hn1.cell (i := 1) rfl; have fr1 := hn1.free 1; have HN1 := Lib.hid (hn1.set 1 (.int .i64 ch)); have HS1 := Lib.hid (hn1.setSrc hs1 (no8 (by simp) (by simp) (by simp) (by simp) (by simp)) 1 (.int .i64 ch)); clear hg1 hs1 hn1))
  have hn3 := HN2.out.set 0 (.int .i64 zk)
  have hs3 := HN2.out.setSrc HS2.out (no8 (by simp) (by simp) (by simp) (by simp) (by simp)) 0 (.int .i64 zk)
  generalize hW3 : w2.setCell ⟨W.heap.size + 1 + 1, 0, none⟩ (Value.int .i64 zk) = W3 at hn3 hs3
  generalize hWF : ((((W3.setCell ⟨W.heap.size + 1, 0, none⟩ (Value.int .i64 zk)).setCell ⟨W.heap.size + 1, 1, none⟩ (Value.int .i64 ch)).setCell ⟨W.heap.size + 1, 2, none⟩ (Value.int .i64 0)).setCell ⟨W.heap.size + 1, 3, none⟩ (Value.slice none 0 0)).setCell ⟨W.heap.size + 1, 4, none⟩ (Value.int .i64 0) = WF
  obtain ⟨k1, k2, k3, _⟩ := NX.end_ hn3 hs3 (no8 (by simp) (by simp) (by simp) (by simp) (by simp)) hWF
  refine bodyPost_ret (results_cell_row rfl _ _ (W.heap.size + 1) 87 #[.int .i64 zk, .int .i64 ch, .int .i64 0, .slice none 0 0, .int .i64 0] (0, 0) _ rfl k2 Try.underlying87 rfl (by kernel_rfl)) rfl ?_
  exact ⟨rfl, k1, k3⟩

set_option maxHeartbeats 2000000 in
set_option maxRecDepth 100000 in
theorem next_leaf (W : World) (g : Nat) (l : List Int) (e : Int) (h : Src W g true l e) (hb : bytesOk l) (hlen : l.length < 100000) :
    Calls Try.prog 66 #[.pointer (some ⟨g, 0, none⟩), .bool true] W fun e' w' => ∃ v, e' = .returned (.agg #[.int .i64 (nextV true l e).1.1, .int .i64 (nextV true l e).1.2.1, .int .i64 (nextV true l e).1.2.2.1, v, .int .i64 (nextV true l e).1.2.2.2.2]) ∧ RB W w' v (nextV true l e).1.2.2.2.1 ∧ W.grownBy w' (some g) ∧ Src w' g true (nextV true l e).2.1 (nextV true l e).2.2 := by
  have hlt := h.lt
  unfold nextV
  simp only [if_true]
  have hb1 := varS_ok (e := e) (gr := 18446744073709551615) hb
  have hl1 := varS_le (l := l) (e := e) (gr := 18446744073709551615)
  have hv1 := varS_range (e := e) (gr := 18446744073709551615) hb (by decide)
  have HV1 := Lib.hid (fun w (hs : Src w g true l e) => Var_calls w g true l e 18446744073709551615 hs hb)
  obtain ⟨r, hr1⟩ : ∃ r, varS true l e 18446744073709551615 = r := ⟨_, rfl⟩
  rw [hr1] at hb1 hl1 hv1 HV1 ⊢
  obtain ⟨z, l1, e1⟩ := r
  simp only at hb1 hl1 hv1 HV1 ⊢
  have hb2 := varS_ok (e := e1) (gr := 20000) hb1
  have hl2 := varS_le (l := l1) (e := e1) (gr := 20000)
  have hv2 := varS_range (e := e1) (gr := 20000) hb1 (by decide)
  have HV2 := Lib.hid (fun w (hs : Src w g true l1 e1) => Var_calls w g true l1 e1 20000 hs hb1)
  obtain ⟨r, hr2⟩ : ∃ r, varS true l1 e1 20000 = r := ⟨_, rfl⟩
  rw [hr2] at hb2 hl2 hv2 HV2 ⊢
  obtain ⟨n, l2, e2⟩ := r
  simp only at hb2 hl2 hv2 HV2 ⊢
  have HZ := Lib.hid (fun w => Zag_calls z w hv1.1 (by omega))
  obtain ⟨zk, hzk⟩ : ∃ zk, MOct.zag z = zk := ⟨_, rfl⟩
  rw [hzk] at HZ ⊢
  have HLO := Lib.hid (fun w => Local_calls n w)
  obtain ⟨lv, hlv⟩ : ∃ lv, localV n = lv := ⟨_, rfl⟩
  rw [hlv] at HLO ⊢
  have hb3 := bytesS_ok (e := e2) (n := lv) hb2
  have hl3 := bytesS_le (l := l2) (e := e2) (n := lv)
  have HBY := Lib.hid (fun w (hs : Src w g true l2 e2) => Bytes_calls w g true l2 e2 lv hs (by omega))
  obtain ⟨r, hr3⟩ : ∃ r, bytesS true l2 e2 lv = r := ⟨_, rfl⟩
  rw [hr3] at hb3 hl3 HBY ⊢
  obtain ⟨bs, l3, e3⟩ := r
  simp only at hb3 hl3 HBY ⊢
  have HSP := Lib.hid (fun A c w => spills_calls (zk, 0, n, bs, 0) A c w)
  obtain ⟨sv, hsv⟩ : ∃ sv, spillsV (zk, 0, n, bs, 0) = sv := ⟨_, rfl⟩
  rw [hsv] at HSP ⊢
  unfold CelC at HSP
  simp only at HSP
  have h4 := num4 (e := e3) hb3
  have HP := Lib.hid (fun w b (hs : Src w g true l3 e3) hx => page81_calls w g b l3 e3 hs hb3 hx)
  obtain ⟨r, hr4⟩ : ∃ r, numS true l3 e3 4 false = r := ⟨_, rfl⟩
  rw [hr4] at HP h4 ⊢
  obtain ⟨nx, l4, e4⟩ := r
  simp only at HP h4 ⊢
  have HS0 := Lib.hid h
  clear hr1 hr2 hr3 hr4 hzk hlv hsv hv1 hb1 hb2 hb3 h hb hl1 hl2 hl3 hlen
  cases sv with
  | false =>
    simp only [Bool.false_eq_true, if_false, if_true]
    go_enter Try.func66, Try.ntmps66
    go_upto_region 8 with (fail)
    have hn0 := NX.start W g hlt
    have HSb : Hid (Src (((W.alloc (.cells #[.pointer (some ⟨g, 0, none⟩)] 43)).alloc (.cells #[.int .i64 0, .int .i64 0, .int .i64 0, .slice none 0 0, .int .i64 0] 87)).alloc (.cells #[.int .i64 0, .int .i64 0, .int .i64 0, .slice none 0 0, .int .i64 0] 87)) g true l e) := Lib.hid (HS0.out.below ((((Below.refl _ _).alloc (Nat.le_refl _) _).alloc (by simp) _).alloc (by simp; omega) _))
    generalize hW0 : ((W.alloc (Obj.cells #[Value.pointer (some ⟨g, 0, none⟩)] 43)).alloc (Obj.cells #[Value.int .i64 0, Value.int .i64 0, Value.int .i64 0, Value.slice none 0 0, Value.int .i64 0] 87)).alloc (Obj.cells #[Value.int .i64 0, Value.int .i64 0, Value.int .i64 0, Value.slice none 0 0, Value.int .i64 0] 87) = W0
    rw [hW0] at hn0 HSb
    have y0 := hn0.src
    have HN0 := Lib.hid hn0
    clear hW0 hn0 HS0
    go_upto_region 9 with (first
      | (go_at_call 23; refine (HZ.out _).mono ?_; rintro e' w3 ⟨rfl, rfl⟩)
      | (go_at_call 27; refine (HV1.out _ HSb.out).mono ?_; rintro e' w1 ⟨rfl, hg1, hs1⟩; have hn1 := HN0.out.step hg1; have d0 := hn1.cell (i := 0) rfl; have d1 := hn1.cell (i := 1) rfl; have d2 := hn1.cell (i := 2) rfl; have d3 := hn1.cell (i := 3) rfl; have d4 := hn1.cell (i := 4) rfl;  have fr1 := hn1.free 0; have HN1 := Lib.hid (hn1.set 0 (.int .i64 zk)); have HS1 := Lib.hid (hn1.setSrc hs1 (no8 (by simp) (by simp) (by simp) (by simp) (by simp)) 0 (.int .i64 zk)); clear hg1 hs1 hn1))
    generalize hW1 : w1.setCell ⟨W.heap.size + 1 + 1, 0, none⟩ (Value.int .i64 zk) = W1
    rw [hW1] at HN1 HS1
    clear hW1 d0 d1 d2 d3 d4 fr1
    go_upto_region 10 with (go_at_call 27; refine (HV2.out _ HS1.out).mono ?_; rintro e' w2 ⟨rfl, hg2, hs2⟩; have hn2 := HN1.out.step hg2; have d0 := hn2.cell (i := 0) rfl; have d1 := hn2.cell (i := 1) rfl; have d2 := hn2.cell (i := 2) rfl; have d3 := hn2.cell (i := 3) rfl; have d4 := hn2.cell (i := 4) rfl;  have fr2 := hn2.free 2; have HN2 := Lib.hid (hn2.set 2 (.int .i64 n)); have HS2 := Lib.hid (hn2.setSrc hs2 (no8 (by simp) (by simp) (by simp) (by simp) (by simp)) 2 (.int .i64 n)); clear hg2 hs2 hn2)
    generalize hW2 : w2.setCell ⟨W.heap.size + 1 + 1, 2, none⟩ (Value.int .i64 n) = W2
    rw [hW2] at HN2 HS2
    clear hW2 d0 d1 d2 d3 d4 fr2
    have k0 := HN2.out.cell (i := 0) rfl
    have k1 := HN2.out.cell (i := 1) rfl
    have k2 := HN2.out.cell (i := 2) rfl
    have k3 := HN2.out.cell (i := 3) rfl
    have k4 := HN2.out.cell (i := 4) rfl
    have kf := HN2.out.free 3
    have y2 := HN2.out.src
    go_region_with (first
      | (go_at_call 42; refine (HLO.out _).mono ?_; rintro e' w3 ⟨rfl, rfl⟩)
      | (go_at_call 28; refine (HBY.out _ (HS2.out.below (Below.refl _ _).drew)).mono ?_; rintro e' w3 ⟨v3, rfl, hr3, hg3, hs3⟩; obtain ⟨A3, c3, rfl, hc3, hC3⟩ := hr3.reads; have hn3 := HN2.out.step (grown2 (grown_of_below (Below.refl _ _).drew (some g)) hg3); have m0 := hn3.cell (i := 0) rfl; have m1 := hn3.cell (i := 1) rfl; have m2 := hn3.cell (i := 2) rfl; have m3 := hn3.cell (i := 3) rfl; have m4 := hn3.cell (i := 4) rfl; have mf := hn3.free 3; have HN3 := Lib.hid hn3; have HS3 := Lib.hid hs3; have HR3 := Lib.hid (hr3.lower (w0 := W) HN2.out.1.size); clear hr3 hg3 hs3 hC3 hn3))
    all_goals
      have hn4 := HN3.out.set 3 (.slice A3 bs.length c3)
      have hs4 := HN3.out.setSrc HS3.out (no8 (by simp) (by simp) (by simp) (by simp) (by simp)) 3 (.slice A3 bs.length c3)
      have hr4 := HR3.out.set HN3.out.2.2.2.2 (by decide) 3 (.slice A3 bs.length c3)
      generalize hW4 : w3.setCell ⟨W.heap.size + 1 + 1, 3, none⟩ (Value.slice A3 bs.length c3) = W4 at hn4 hs4 hr4 ⊢
      have d0 := hn4.cell (i := 0) rfl
      have d1 := hn4.cell (i := 1) rfl
      have d2 := hn4.cell (i := 2) rfl
      have d3 := hn4.cell (i := 3) rfl
      have d4 := hn4.cell (i := 4) rfl
      have HN4 := Lib.hid hn4
      have HS4 := Lib.hid hs4
      have HR4 := Lib.hid hr4
      clear hn4 hs4 hr4 hW4 m0 m1 m2 m3 m4 mf HN3 HS3 HR3 k0 k1 k2 k3 k4 kf y2
      go_wp2_with (go_at_call 82; refine (HSP.out A3 c3 _).mono ?_; rintro e' w5 ⟨rfl, hb5⟩; have hn5 := HN4.out.step (grown_of_below hb5 (some g)); have d0 := hn5.cell (i := 0) rfl; have d1 := hn5.cell (i := 1) rfl; have d2 := hn5.cell (i := 2) rfl; have d3 := hn5.cell (i := 3) rfl; have d4 := hn5.cell (i := 4) rfl;  have r0 := hn5.rcell (i := 0) rfl; have r1 := hn5.rcell (i := 1) rfl; have r2 := hn5.rcell (i := 2) rfl; have r3 := hn5.rcell (i := 3) rfl; have r4 := hn5.rcell (i := 4) rfl; have s0 := hn5.rfree 0; have s1 := hn5.rfree 1; have s2 := hn5.rfree 2; have s3 := hn5.rfree 3; have s4 := hn5.rfree 4;  have fr4 := hn5.free 4; have y5 := hn5.src; have HN5 := Lib.hid hn5; have HS5 := Lib.hid (HS4.out.below hb5); have HR5 := Lib.hid (HR4.out.below hb5); clear hb5 hn5)
      generalize hWF : ((((w5.setCell ⟨W.heap.size + 1, 0, none⟩ (Value.int .i64 zk)).setCell ⟨W.heap.size + 1, 1, none⟩ (Value.int .i64 0)).setCell ⟨W.heap.size + 1, 2, none⟩ (Value.int .i64 n)).setCell ⟨W.heap.size + 1, 3, none⟩ (Value.slice A3 bs.length c3)).setCell ⟨W.heap.size + 1, 4, none⟩ (Value.int .i64 0) = WF
      obtain ⟨q1, q2, q3, q4⟩ := NX.end_ HN5.out HS5.out (no8 (by simp) (by simp) (by simp) (by simp) (by simp)) hWF
      refine bodyPost_ret (results_cell_row rfl _ _ (W.heap.size + 1) 87 #[.int .i64 zk, .int .i64 0, .int .i64 n, .slice A3 bs.length c3, .int .i64 0] (0, 0) _ rfl q2 Try.underlying87 rfl (by kernel_rfl)) rfl ?_
      exact ⟨_, rfl, q4 _ _ HR5.out, q1, q3⟩
  | true =>
    simp only [Bool.false_eq_true, if_false, if_true]
    go_enter Try.func66, Try.ntmps66
    go_upto_region 8 with (fail)
    have hn0 := NX.start W g hlt
    have HSb : Hid (Src (((W.alloc (.cells #[.pointer (some ⟨g, 0, none⟩)] 43)).alloc (.cells #[.int .i64 0, .int .i64 0, .int .i64 0, .slice none 0 0, .int .i64 0] 87)).alloc (.cells #[.int .i64 0, .int .i64 0, .int .i64 0, .slice none 0 0, .int .i64 0] 87)) g true l e) := Lib.hid (HS0.out.below ((((Below.refl _ _).alloc (Nat.le_refl _) _).alloc (by simp) _).alloc (by simp; omega) _))
    generalize hW0 : ((W.alloc (Obj.cells #[Value.pointer (some ⟨g, 0, none⟩)] 43)).alloc (Obj.cells #[Value.int .i64 0, Value.int .i64 0, Value.int .i64 0, Value.slice none 0 0, Value.int .i64 0] 87)).alloc (Obj.cells #[Value.int .i64 0, Value.int .i64 0, Value.int .i64 0, Value.slice none 0 0, Value.int .i64 0] 87) = W0
    rw [hW0] at hn0 HSb
    have y0 := hn0.src
    have HN0 := Lib.hid hn0
    clear hW0 hn0 HS0
    go_upto_region 9 with (first
      | (go_at_call 23; refine (HZ.out _).mono ?_; rintro e' w3 ⟨rfl, rfl⟩)
      | (go_at_call 27; refine (HV1.out _ HSb.out).mono ?_; rintro e' w1 ⟨rfl, hg1, hs1⟩; have hn1 := HN0.out.step hg1; have d0 := hn1.cell (i := 0) rfl; have d1 := hn1.cell (i := 1) rfl; have d2 := hn1.cell (i := 2) rfl; have d3 := hn1.cell (i := 3) rfl; have d4 := hn1.cell (i := 4) rfl;  have fr1 := hn1.free 0; have HN1 := Lib.hid (hn1.set 0 (.int .i64 zk)); have HS1 := Lib.hid (hn1.setSrc hs1 (no8 (by simp) (by simp) (by simp) (by simp) (by simp)) 0 (.int .i64 zk)); clear hg1 hs1 hn1))
    generalize hW1 : w1.setCell ⟨W.heap.size + 1 + 1, 0, none⟩ (Value.int .i64 zk) = W1
    rw [hW1] at HN1 HS1
    clear hW1 d0 d1 d2 d3 d4 fr1
    go_upto_region 10 with (go_at_call 27; refine (HV2.out _ HS1.out).mono ?_; rintro e' w2 ⟨rfl, hg2, hs2⟩; have hn2 := HN1.out.step hg2; have d0 := hn2.cell (i := 0) rfl; have d1 := hn2.cell (i := 1) rfl; have d2 := hn2.cell (i := 2) rfl; have d3 := hn2.cell (i := 3) rfl; have d4 := hn2.cell (i := 4) rfl;  have fr2 := hn2.free 2; have HN2 := Lib.hid (hn2.set 2 (.int .i64 n)); have HS2 := Lib.hid (hn2.setSrc hs2 (no8 (by simp) (by simp) (by simp) (by simp) (by simp)) 2 (.int .i64 n)); clear hg2 hs2 hn2)
    generalize hW2 : w2.setCell ⟨W.heap.size + 1 + 1, 2, none⟩ (Value.int .i64 n) = W2
    rw [hW2] at HN2 HS2
    clear hW2 d0 d1 d2 d3 d4 fr2
    have k0 := HN2.out.cell (i := 0) rfl
    have k1 := HN2.out.cell (i := 1) rfl
    have k2 := HN2.out.cell (i := 2) rfl
    have k3 := HN2.out.cell (i := 3) rfl
    have k4 := HN2.out.cell (i := 4) rfl
    have kf := HN2.out.free 3
    have y2 := HN2.out.src
    go_region_with (first
      | (go_at_call 42; refine (HLO.out _).mono ?_; rintro e' w3 ⟨rfl, rfl⟩)
      | (go_at_call 28; refine (HBY.out _ (HS2.out.below (Below.refl _ _).drew)).mono ?_; rintro e' w3 ⟨v3, rfl, hr3, hg3, hs3⟩; obtain ⟨A3, c3, rfl, hc3, hC3⟩ := hr3.reads; have hn3 := HN2.out.step (grown2 (grown_of_below (Below.refl _ _).drew (some g)) hg3); have m0 := hn3.cell (i := 0) rfl; have m1 := hn3.cell (i := 1) rfl; have m2 := hn3.cell (i := 2) rfl; have m3 := hn3.cell (i := 3) rfl; have m4 := hn3.cell (i := 4) rfl; have mf := hn3.free 3; have HN3 := Lib.hid hn3; have HS3 := Lib.hid hs3; have HR3 := Lib.hid (hr3.lower (w0 := W) HN2.out.1.size); clear hr3 hg3 hs3 hC3 hn3))
    all_goals
      have hn4 := HN3.out.set 3 (.slice A3 bs.length c3)
      have hs4 := HN3.out.setSrc HS3.out (no8 (by simp) (by simp) (by simp) (by simp) (by simp)) 3 (.slice A3 bs.length c3)
      have hr4 := HR3.out.set HN3.out.2.2.2.2 (by decide) 3 (.slice A3 bs.length c3)
      generalize hW4 : w3.setCell ⟨W.heap.size + 1 + 1, 3, none⟩ (Value.slice A3 bs.length c3) = W4 at hn4 hs4 hr4 ⊢
      have d0 := hn4.cell (i := 0) rfl
      have d1 := hn4.cell (i := 1) rfl
      have d2 := hn4.cell (i := 2) rfl
      have d3 := hn4.cell (i := 3) rfl
      have d4 := hn4.cell (i := 4) rfl
      have HN4 := Lib.hid hn4
      have HS4 := Lib.hid hs4
      have HR4 := Lib.hid hr4
      clear hn4 hs4 hr4 hW4 m0 m1 m2 m3 m4 mf HN3 HS3 HR3 k0 k1 k2 k3 k4 kf y2
      go_wp2_with (first
        | (go_at_call 81; refine (HP.out _ _ HS5.out y5).mono ?_; rintro e' w6 ⟨rfl, hg6, hs6⟩; have hn6 := HN5.out.step hg6; have d0 := hn6.cell (i := 0) rfl; have d1 := hn6.cell (i := 1) rfl; have d2 := hn6.cell (i := 2) rfl; have d3 := hn6.cell (i := 3) rfl; have d4 := hn6.cell (i := 4) rfl;  have r0 := hn6.rcell (i := 0) rfl; have r1 := hn6.rcell (i := 1) rfl; have r2 := hn6.rcell (i := 2) rfl; have r3 := hn6.rcell (i := 3) rfl; have r4 := hn6.rcell (i := 4) rfl; have s0 := hn6.rfree 0; have s1 := hn6.rfree 1; have s2 := hn6.rfree 2; have s3 := hn6.rfree 3; have s4 := hn6.rfree 4;  have fr6 := hn6.free 4; have HN6 := Lib.hid hn6; have HS6 := Lib.hid hs6; have HR6 := Lib.hid (HR5.out.src HS5.out hg6); clear hg6 hs6 hn6)
        | (go_at_call 82; refine (HSP.out A3 c3 _).mono ?_; rintro e' w5 ⟨rfl, hb5⟩; have hn5 := HN4.out.step (grown_of_below hb5 (some g)); have d0 := hn5.cell (i := 0) rfl; have d1 := hn5.cell (i := 1) rfl; have d2 := hn5.cell (i := 2) rfl; have d3 := hn5.cell (i := 3) rfl; have d4 := hn5.cell (i := 4) rfl;  have r0 := hn5.rcell (i := 0) rfl; have r1 := hn5.rcell (i := 1) rfl; have r2 := hn5.rcell (i := 2) rfl; have r3 := hn5.rcell (i := 3) rfl; have r4 := hn5.rcell (i := 4) rfl; have s0 := hn5.rfree 0; have s1 := hn5.rfree 1; have s2 := hn5.rfree 2; have s3 := hn5.rfree 3; have s4 := hn5.rfree 4;  have fr4 := hn5.free 4; have y5 := hn5.src; have HN5 := Lib.hid hn5; have HS5 := Lib.hid (HS4.out.below hb5); have HR5 := Lib.hid (HR4.out.below hb5); clear hb5 hn5))
      have hn7 := HN6.out.set 4 (.int .i64 nx)
      have hs7 := HN6.out.setSrc HS6.out (no8 (by simp) (by simp) (by simp) (by simp) (by simp)) 4 (.int .i64 nx)
      have hr7 := HR6.out.set HN6.out.2.2.2.2 (by decide) 4 (.int .i64 nx)
      generalize hW7 : w6.setCell ⟨W.heap.size + 1 + 1, 4, none⟩ (Value.int .i64 nx) = W7 at hn7 hs7 hr7
      generalize hWF : ((((W7.setCell ⟨W.heap.size + 1, 0, none⟩ (Value.int .i64 zk)).setCell ⟨W.heap.size + 1, 1, none⟩ (Value.int .i64 0)).setCell ⟨W.heap.size + 1, 2, none⟩ (Value.int .i64 n)).setCell ⟨W.heap.size + 1, 3, none⟩ (Value.slice A3 bs.length c3)).setCell ⟨W.heap.size + 1, 4, none⟩ (Value.int .i64 nx) = WF
      obtain ⟨q1, q2, q3, q4⟩ := NX.end_ hn7 hs7 (no8 (by simp) (by simp) (by simp) (by simp) (by simp)) hWF
      refine bodyPost_ret (results_cell_row rfl _ _ (W.heap.size + 1) 87 #[.int .i64 zk, .int .i64 0, .int .i64 n, .slice A3 bs.length c3, .int .i64 nx] (0, 0) _ rfl q2 Try.underlying87 rfl (by kernel_rfl)) rfl ?_
      exact ⟨_, rfl, q4 _ _ hr7, q1, q3⟩

theorem next_calls (leaf : Bool) (W : World) (g : Nat) (l : List Int) (e : Int) (h : Src W g true l e) (hb : bytesOk l) (hlen : l.length < 100000) :
    Calls Try.prog 66 #[.pointer (some ⟨g, 0, none⟩), .bool leaf] W fun e' w' => ∃ v, e' = .returned (.agg #[.int .i64 (nextV leaf l e).1.1, .int .i64 (nextV leaf l e).1.2.1, .int .i64 (nextV leaf l e).1.2.2.1, v, .int .i64 (nextV leaf l e).1.2.2.2.2]) ∧ RB W w' v (nextV leaf l e).1.2.2.2.1 ∧ W.grownBy w' (some g) ∧ Src w' g true (nextV leaf l e).2.1 (nextV leaf l e).2.2 := by
  cases leaf with
  | false => exact (next_inner W g l e h hb).mono (by rintro e' w' ⟨rfl, hg, hs⟩; exact ⟨_, rfl, RB.nil _ _, hg, hs⟩)
  | true => exact next_leaf W g l e h hb hlen
theorem nextV_ok (leaf : Bool) {l : List Int} {e : Int} (h : bytesOk l) : bytesOk (nextV leaf l e).2.1 ∧ (nextV leaf l e).2.1.length ≤ l.length ∧ (-9223372036854775808 ≤ (nextV leaf l e).1.1 ∧ (nextV leaf l e).1.1 < 9223372036854775808) ∧ (nextV leaf l e).1.2.2.2.1.length ≤ l.length := by
  unfold nextV
  cases leaf with
  | false =>
    have h1 := numS_ok (e := e) (sz := 4) (b := false) h
    have h2 := numS_le (l := l) (e := e) (sz := 4) (b := false)
    have h3 := varS_ok (e := (numS true l e 4 false).2.2) (gr := 18446744073709551615) h1
    have h4 := varS_le (l := (numS true l e 4 false).2.1) (e := (numS true l e 4 false).2.2) (gr := 18446744073709551615)
    have h5 := varS_range (e := (numS true l e 4 false).2.2) (gr := 18446744073709551615) h1 (by decide)
    have h6 := MOct.zag_range _ h5.1 (by omega)
    simp only [Bool.false_eq_true, if_false]
    exact ⟨h3, by omega, h6, by simp⟩
  | true =>
    have h1 := varS_ok (e := e) (gr := 18446744073709551615) h
    have h2 := varS_le (l := l) (e := e) (gr := 18446744073709551615)
    have h5 := varS_range (e := e) (gr := 18446744073709551615) h (by decide)
    have h6 := MOct.zag_range _ h5.1 (by omega)
    simp only [if_true]
    generalize varS true l e 18446744073709551615 = a at h1 h2 h6 ⊢
    have h3 := varS_ok (e := a.2.2) (gr := 20000) h1
    have h4 := varS_le (l := a.2.1) (e := a.2.2) (gr := 20000)
    generalize varS true a.2.1 a.2.2 20000 = b at h3 h4 ⊢
    have h7 := bytesS_ok (e := b.2.2) (n := localV b.1) h3
    have h8 := bytesS_le (l := b.2.1) (e := b.2.2) (n := localV b.1)
    generalize bytesS true b.2.1 b.2.2 (localV b.1) = c at h7 h8 ⊢
    have h9 := numS_ok (e := c.2.2) (sz := 4) (b := false) h7
    have h10 := numS_le (l := c.2.1) (e := c.2.2) (sz := 4) (b := false)
    split
    · exact ⟨h9, by show (numS true c.2.1 c.2.2 4 false).2.1.length ≤ l.length; omega, h6, by show c.1.length ≤ l.length; omega⟩
    · exact ⟨h7, by show c.2.1.length ≤ l.length; omega, h6, by show c.1.length ≤ l.length; omega⟩
/-- k cells, as long as there is no error. -/
def cellsV (leaf : Bool) : Nat → List Int → Int → List Cel × List Int × Int
  | 0, l, e => ([], l, e)
  | k + 1, l, e => if e = 0 then ((nextV leaf l e).1 :: (cellsV leaf k (nextV leaf l e).2.1 (nextV leaf l e).2.2).1, (cellsV leaf k (nextV leaf l e).2.1 (nextV leaf l e).2.2).2) else ([], l, e)
theorem cellsV_err (leaf : Bool) (k : Nat) (l : List Int) {e : Int} (h : e ≠ 0) : cellsV leaf k l e = ([], l, e) := by
  cases k with
  | zero => rfl
  | succ k => unfold cellsV; rw [if_neg h]
theorem cellsV_ok (leaf : Bool) (k : Nat) : ∀ {l : List Int} {e : Int}, bytesOk l → (cellsV leaf k l e).1.length ≤ k ∧ ∀ c ∈ (cellsV leaf k l e).1, ((-9223372036854775808 ≤ c.1 ∧ c.1 < 9223372036854775808) ∧ c.2.2.2.1.length ≤ l.length) := by
  induction k with
  | zero => intro l e _; exact ⟨by simp [cellsV], fun c hc => by simp [cellsV] at hc⟩
  | succ k ih =>
    intro l e h
    unfold cellsV
    split
    · have hn := nextV_ok leaf (e := e) h
      have hi := ih (l := (nextV leaf l e).2.1) (e := (nextV leaf l e).2.2) hn.1
      refine ⟨by simp; exact hi.1, fun c hc => ?_⟩
      rcases List.mem_cons.1 hc with rfl | hc
      · exact ⟨hn.2.2.1, hn.2.2.2⟩
      · have := hi.2 c hc
        exact ⟨this.1, by omega⟩
    · exact ⟨by simp, fun c hc => by simp at hc⟩
/-- A cell in a row of the call's own: its bytes are the call's own. -/
def CelO (w0 W : World) (c : Cel) (cs : List Value) : Prop := ∃ v, cs = [.int .i64 c.1, .int .i64 c.2.1, .int .i64 c.2.2.1, v, .int .i64 c.2.2.2.2] ∧ RB w0 W v c.2.2.2.1
def RO (w0 W : World) (v : Value) (l : List Cel) : Prop := OwnRow (CelO w0 W) 87 5 W w0.heap.size v l
theorem RO.nil (w0 W : World) : RO w0 W (.slice none 0 0) [] := OwnRow.none_ _ _ _ _ _
theorem RO.imp {w0 W W' : World} {v : Value} {l : List Cel} (h : RO w0 W v l) (h1 : ∀ n cs, W.ownsRow w0.heap.size 87 5 v n cs → W'.ownsRow w0.heap.size 87 5 v n cs) (h2 : ∀ u bs, RB w0 W u bs → RB w0 W' u bs) : RO w0 W' v l := by
  obtain ⟨i, hi, hr⟩ := h
  exact ⟨i, h1 _ _ hi, hr.imp_ (fun p c ⟨u, e, hu⟩ => ⟨u, e, h2 _ _ hu⟩)⟩
theorem RO.below {w0 W W' : World} {v : Value} {l : List Cel} (h : RO w0 W v l) (hb : Below W.heap.size W W') : RO w0 W' v l := h.imp (fun _ _ hi => pw_own_below hi hb) (fun _ _ hu => hu.below hb)
theorem RO.ne {w0 W : World} {v : Value} {l : List Cel} (h : RO w0 W v l) {g t : Nat} {cs : Array Value} (hg : W.heap[g]? = some (.cells cs t (0, 0))) (hne : 87 ≠ t) : some g ≠ v.ownBlock := by
  obtain ⟨i, hi, hr⟩ := h
  exact own_ne hi hg hne
theorem RO.set {w0 W : World} {v : Value} {l : List Cel} (h : RO w0 W v l) {k t : Nat} {cs : Array Value} (hb : W.heap[k]? = some (.cells cs t (0, 0))) (ht : 87 ≠ t) (h5 : 5 ≠ t) (i : Nat) (u : Value) : RO w0 (W.setCell ⟨k, i, none⟩ u) v l :=
  h.imp (fun _ _ hi => own_setCell hi (own_ne hi hb ht) u) (fun _ _ hu => hu.set hb h5 i u)
theorem RO.src {w0 W W' : World} {v : Value} {xs : List Cel} {l : List Int} {g : Nat} {e : Int} (h : RO w0 W v xs) (hs : Src W g true l e) (hg : W.grownBy W' (some g)) : RO w0 W' v xs := by
  have hs' := hs
  obtain ⟨A, c, h1, _⟩ := hs
  exact h.imp (fun _ _ hi => own_other hi hg (.inr (fun e => own_ne hi h1 (by decide) e.symm))) (fun _ _ hu => hu.src hs' hg)
theorem RO.base {w0 W : World} {v : Value} {l : List Cel} (h : RO w0 W v l) (k : Nat) (hk : v.ownBlock = some k) : w0.heap.size ≤ k := by
  obtain ⟨i, hi, hr⟩ := h
  exact own_base hi k hk
theorem CB.grow {w w' : World} {A : Option Addr} {l : List Int} {row : Option Nat} (h : CB w A l) (hg : w.grownBy w' row) (hr : 0 < l.length → ∀ ad, A = some ad → some ad.block ≠ row) : CB w' A l := by
  refine ⟨h.1, h.2.1, fun h0 => ?_⟩
  obtain ⟨ad, e, hc⟩ := h.2.2 h0
  refine ⟨ad, e, fun j p hj => ?_⟩
  obtain ⟨c, h1, h2, h3⟩ := hc j p hj
  refine ⟨c, h1, h2, fun i u hu => cell_grown hg (h3 i u hu) ?_⟩
  rw [add_block]
  exact hr h0 ad e
theorem Src.grow {W W' : World} {g : Nat} {made : Bool} {l : List Int} {e : Int} (h : Src W g made l e) {row : Option Nat} (hg : W.grownBy W' row) (hr : ∀ k, row = some k → g < k) : Src W' g made l e := by
  have hlt := h.lt
  obtain ⟨A, c, h1, h2, h3⟩ := h
  refine ⟨A, c, (hg.block g hlt (fun e => by have := hr g e.symm; omega)).trans h1, h2, ⟨h3.cb.grow hg (fun h0 ad e e2 => by have h4 := h3.old h0 ad e; have := hr _ e2.symm; omega), h3.old⟩⟩
theorem RO.reads {w0 W : World} {v : Value} {l : List Cel} (h : RO w0 W v l) : ∃ A c, v = .slice A l.length c ∧ l.length ≤ c ∧ KC9.C W A l.length l := by
  obtain ⟨i, h1, h2⟩ := h
  have hr : Reps (KC9.K W) 5 l i := h2.imp_ (fun p c ⟨u, e, hu⟩ => by
    obtain ⟨key, child, len, loc, next⟩ := p
    obtain ⟨A, cc, rfl, hc, hC⟩ := hu.reads
    subst e
    exact cel_K hC hc)
  have hcap : ∃ A c, v = .slice A l.length c ∧ l.length ≤ c := by
    rcases h1.2 with ⟨rfl, h0⟩ | ⟨g, cap, cur, rfl, _, _, hn, _⟩
    · exact ⟨none, 0, by rw [h0], by omega⟩
    · exact ⟨_, cap, rfl, hn⟩
  obtain ⟨A, c, rfl, hc⟩ := hcap
  obtain ⟨A', c', he, hC⟩ := own_reads_row h1 hr rfl
  injection he with e1 e2 e3
  subst e1
  exact ⟨A, c, rfl, hc, hC⟩
theorem infoC87 : (Try.prog.info? 87).map (fun i => (i.zero, i.size, i.bytes)) = some (some (.agg #[.int .i64 0, .int .i64 0, .int .i64 0, .slice none 0 0, .int .i64 0]), 5, 56) := by kernel_rfl
section
variable {ops : Array Oper} {rest : List Oper} {o : Oper} {a : Act} {Q : Exit → Act → World → Prop}
theorem appO {B W : World} (s x : Operand) (hgd : o.guard = none) (ho : o.op = .call { callee := .builtin .append, args := #[s, x], argTypes := #[53, 53] })
    (v : Value) (xs : List Cel) (c : Cel) (u : Value) (hs : a.eval s = v) (hx : a.eval x = .slice (some ⟨W.heap.size, 0, none⟩) 1 1) (hu : RB B W u c.2.2.2.1)
    (HO : RO B W v xs) (hB : B.heap.size ≤ W.heap.size) (hl : (xs.length + 1) * 56 ≤ 140737488355328)
    (h : ∀ v1 w1, RO B w1 v1 (xs ++ [c]) → W.grownBy w1 v.ownBlock → wpList Try.prog ops Q rest (a.put o.dst v1) w1) :
    wpList Try.prog ops Q (o :: rest) a (W.alloc (.cells #[.int .i64 c.1, .int .i64 c.2.1, .int .i64 c.2.2.1, u, .int .i64 c.2.2.2.2] 87)) := by
  obtain ⟨inner, h1, h2⟩ := HO
  obtain ⟨Au, cu, hus, _, _⟩ := hu.reads
  refine print_append_cells (w0 := W) B.heap.size hgd s x 53 87 (.agg #[.int .i64 0, .int .i64 0, .int .i64 0, .slice none 0 0, .int .i64 0]) 5 56 ho Try.underlying53 infoC87 rfl (by decide) (by decide) v xs.length inner [.int .i64 c.1, .int .i64 c.2.1, .int .i64 c.2.2.1, u, .int .i64 c.2.2.2.2] hs hx rfl (by rw [hus]; simp [Value.oneCell']) h1 (Below.refl _ _) hB hl ?_
  intro v1 w1 hown hb hg _
  have key : ∀ y bs, RB B W y bs → RB B w1 y bs := fun y bs hy => Kd.R_grown2 hy rfl hg (fun k hk e => by
    rcases own_type_ne h1 (Kd.own_of_R hy) (by decide) with h | h
    · rw [hk] at h; cases h
    · exact h (by rw [hk, e]))
  refine h v1 w1 ⟨inner ++ [.int .i64 c.1, .int .i64 c.2.1, .int .i64 c.2.2.1, u, .int .i64 c.2.2.2.2], ?_, (h2.imp_ (fun p cs ⟨y, e, hy⟩ => ⟨y, e, key _ _ hy⟩)).snoc ⟨u, rfl, key _ _ hu⟩ rfl⟩ hg
  rw [List.length_append, List.length_singleton]
  exact hown
end
theorem step_of_list {P : Program} {ops : Array Oper} {o : Oper} {a : Act} {W : World} {K : Act → World → Prop} {Q : Exit → Act → World → Prop} {E : Prop} (hg : o.guard = none)
    (h : wpList P ops (fun ex a w => ex = .normal ∧ K a w) [o] a W) : if Region.wanted o (yielded ops a.tmps) = true then Oper.wp P o a W K Q else E := by
  rw [if_pos (by simp [Region.wanted, hg])]
  exact wp_of_list hg h
end Go.Proofs.Ytlfcgicobhalmaa.K
