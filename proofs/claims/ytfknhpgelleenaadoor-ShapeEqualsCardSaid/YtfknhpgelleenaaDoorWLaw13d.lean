/- ShapeEquals walked. -/
import Derived.Test.YtfknhpgelleenaaDoorKB
import Derived.Handy
import Derived.Test.YtfknhpgelleenaaDoorKM
import Derived.Test.YtfknhpgelleenaaDoorWShp
import Derived.Test.YtfknhpgelleenaaDoorWSame
import Derived.Test.YtfknhpgelleenaaDoorWEqual
import Derived.Test.YtfknhpgelleenaaDoorWREqual
import Derived.Test.YtfknhpgelleenaaDoorWLight
import Derived.Test.YtfknhpgelleenaaDoorWPts
import Derived.Test.YtfknhpgelleenaaDoorWRight
import Derived.Test.YtfknhpgelleenaaDoorWLive13
import Derived.Test.YtfknhpgelleenaaDoorWEachR
import Derived.Test.YtfknhpgelleenaaDoorWAppIn
import Derived.Test.YtfknhpgelleenaaDoorWShapeK
import Derived.Test.YtfknhpgelleenaaDoorWCheck
namespace Go.Proofs.YtfknhpgelleenaaDoor.K
open Go Go.RowKit Go.Proofs.YtfknhpgelleenaaDoorW.PrintWords Go.Proofs.YtfknhpgelleenaaDoorW.PrintLast Go.Proofs.YtfknhpgelleenaaDoorW.PrintMore
set_option linter.unusedVariables false
set_option linter.unusedSimpArgs false
open Go.Shelf
attribute [local go_sem] Oper.semAt_some
open Go.Proofs.YtfknhpgelleenaaDoor.MShape (Sh flats light eqPts eqS)
/-- What a loop that gathers points keeps. -/
def EqI (w : World) (g gn N : Nat) (ca cb : Array Value) (l : List (Int × Int)) (W : World) : Prop :=
  (∃ v, Blk W g #[v] 22 ∧ RPt w W v l) ∧ Blk W gn #[.int .i64 N] 3 ∧ Blk W w.heap.size ca 25 ∧ Blk W (w.heap.size + 1) cb 25 ∧ Below w.heap.size w W
theorem EqI.own {w : World} {g gn N : Nat} {ca cb : Array Value} {l : List (Int × Int)} {X Y : World} {row : Option Nat} {B : Nat} (hB : w.heap.size ≤ B) (h : EqI w g gn N ca cb l X) (hg : X.grownBy Y row) (hr : ∀ r, row = some r → B ≤ r ∧ ∃ o : Obj, X.heap[r]? = some o ∧ o.isCells = false) : EqI w g gn N ca cb l Y := by
  obtain ⟨⟨v, h1, h2⟩, h3, h4, h5, h6⟩ := h
  have hr' : ∀ r, row = some r → ∃ o : Obj, X.heap[r]? = some o ∧ o.isCells = false := fun r e => (hr r e).2
  exact ⟨⟨v, (blk_own (fun _ : Unit => #[v])) () X Y row h1 hg hr', h2.put hg hr'⟩, (blk_own (fun _ : Unit => #[.int .i64 N])) () X Y row h3 hg hr', (blk_own (fun _ : Unit => ca)) () X Y row h4 hg hr', (blk_own (fun _ : Unit => cb)) () X Y row h5 hg hr', h6.grown hg h6.size (fun k e => Nat.le_trans hB (hr k e).1)⟩
theorem EqI.alloc {w : World} {g gn N : Nat} {ca cb : Array Value} {l : List (Int × Int)} {X : World} (h : EqI w g gn N ca cb l X) (o : Obj) : EqI w g gn N ca cb l (X.alloc o) :=
  h.own (Nat.le_refl _) (World.grownBy_alloc X o none) (fun r e => by cases e)
theorem EqI.bel {w : World} {g gn N : Nat} {ca cb : Array Value} {l : List (Int × Int)} {X Y : World} (h : EqI w g gn N ca cb l X) (hb : Bel X Y) : EqI w g gn N ca cb l Y := by
  obtain ⟨⟨v, h1, h2⟩, h3, h4, h5, h6⟩ := h
  exact ⟨⟨v, h1.bel hb, h2.below hb⟩, h3.bel hb, h4.bel hb, h5.bel hb, bthen h6 hb⟩
theorem Kr.app {w0 W w1 : World} {g t : Nat} {v v1 : Value} {xs ys : List (Int × Int)} (hg : Blk W g #[v] t) (hr1 : RPt w0 w1 v1 ys) (hgr : W.grownBy w1 v.ownBlock) (hat : v1.ownBlock = v.ownBlock ∨ ∃ b, v1.ownBlock = some b ∧ W.heap.size ≤ b) (hne : some g ≠ v.ownBlock) : Kr g W (w1.setCell ⟨g, 0, none⟩ v1) := by
  have h1 : Blk w1 g #[v] t := (hgr.block g (Blk.lt hg) hne).trans hg
  have h2 : Blk (w1.setCell ⟨g, 0, none⟩ v1) g #[v1] t := h1.set 0 v1
  refine ⟨by simpa using hgr.size, fun _ => ⟨?_, fun j hj hrow cs t' r hc => ?_⟩⟩
  · rw [rowB_blk h2, rowB_blk hg]
    rcases hat with e | ⟨b, e, hb⟩
    · exact .inl e
    · exact .inr ⟨b, e, hb, by simpa using (hr1.own_lt b e).2⟩
  · rw [rowB_blk hg] at hrow
    exact (Below.heap_setCell w1 ⟨g, 0, none⟩ v1 j hj).trans ((hgr.block j (Array.getElem?_eq_some_iff.1 hc).1 hrow).trans hc)
theorem EqI.app {w W w1 : World} {g gn N : Nat} {ca cb : Array Value} {v v1 : Value} {ys : List (Int × Int)} (hwg : w.heap.size ≤ g) (hgg : g ≠ gn ∧ g ≠ w.heap.size ∧ g ≠ w.heap.size + 1) (hg : Blk W g #[v] 22) (hn : Blk W gn #[.int .i64 N] 3) (ha : Blk W w.heap.size ca 25) (hb : Blk W (w.heap.size + 1) cb 25)
    {xs : List (Int × Int)} (hr : RPt w W v xs) (hr1 : RPt w w1 v1 ys) (hB : Below w.heap.size w w1) (hgr : W.grownBy w1 v.ownBlock) : EqI w g gn N ca cb ys (w1.setCell ⟨g, 0, none⟩ v1) := by
  have h1 : Blk w1 g #[v] 22 := (hgr.block g (Blk.lt hg) (hr.ne hg (by decide))).trans hg
  have k : ∀ {j t : Nat} {cs : Array Value}, j ≠ g → 41 ≠ t → Blk W j cs t → Blk (w1.setCell ⟨g, 0, none⟩ v1) j cs t := fun {j t cs} hj ht h =>
    (Below.heap_setCell w1 ⟨g, 0, none⟩ v1 j hj).trans ((hgr.block j (Blk.lt h) (hr.ne h ht)).trans h)
  exact ⟨⟨v1, h1.set 0 v1, hr1.set (hr1.ne h1 (by decide)) v1⟩, k (fun e => hgg.1 e.symm) (by decide) hn, k (fun e => hgg.2.1 e.symm) (by decide) ha, k (fun e => hgg.2.2 e.symm) (by decide) hb, below_set hB hwg _⟩
theorem PtsB.take {B : Nat} {W : World} {a : Option Addr} {c : Nat} {l : List (Int × Int)} (h : PtsB B W (.slice a l.length c) l) {N : Nat} (hN : N ≤ l.length) : PtsB B W (.slice a N c) (l.take N) := by
  obtain ⟨a', c', e, hc, hm, hx⟩ := h
  injection e with u1 u2 u3
  subst u1 u3
  have hl : (l.take N).length = N := by rw [List.length_take]; omega
  refine ⟨a, c, by rw [hl], by omega, by omega, fun i hi => ?_⟩
  obtain ⟨b, off, e, hb, h1, h2⟩ := hx i (by omega)
  rw [List.getElem_take]
  exact ⟨b, off, e, hb, h1, h2⟩
theorem nilF_in {P : Program} (w : World) (d : Nat) (t : TypeId) (ps rs : Array TypeId) (v : Bool) (f : Fn) (xs ys : Array Value) (h : P.underlying t = some (.func ps rs v)) :
    (Op.equalIn (d + 1) t (.func f xs ys) .nilFunc).run P w = .ok false w := by
  simp [Op.equalIn, run_underlying h]
theorem nilF (f : Fn) (xs ys : Array Value) (w : World) : (binOp .eql 38 (.func f xs ys) .nilFunc).run Tryd.prog w = .ok (.bool false) w := by
  simp only [binOp]
  simp [Op.equal, Op.maxDepth, nilF_in w 9999 _ _ _ _ f xs ys Tryd.underlying38]
set_option maxHeartbeats 4000000 in
set_option maxRecDepth 100000 in
theorem equals_calls (D1 D2 : Nat) (s1 s2 : Sh) (x1 x2 : Value × Value × Value) (most : Int) (w : World) (hw1 : 1 ≤ w.heap.size) (hs1 : ShB w.heap.size w D1 x1 s1) (hs2 : ShB w.heap.size w D2 x2 s2) (hF : FormsAt w) (hm : 0 ≤ most) :
    Calls Tryd.prog 5 #[.agg #[x1.1, x1.2.1, x1.2.2], .agg #[x2.1, x2.2.1, x2.2.2], .int .u64 most] w fun e w' => e = .returned (.bool true) ∧ Bel w w' := by
  have HS1 := Lib.hid hs1
  have HS2 := Lib.hid hs2
  have HL1 := Lib.hid (fun w1 h => rLight_calls D1 s1 x1 w1 w.heap.size h)
  have HL2 := Lib.hid (fun w1 h => rLight_calls D2 s2 x2 w1 w.heap.size h)
  obtain ⟨kd, u1, u2, u3, u4, u5, u6, rfl⟩ := hs1.forms
  obtain ⟨kd', z1, z2, z3, z4, z5, z6, rfl⟩ := hs2.forms
  dsimp only
  have HF := Lib.hid hF
  have HW1 := Lib.hid hw1
  obtain ⟨N, hN, hN2⟩ : ∃ N : Nat, wrap64 (most.tmod 200) = N ∧ N < 200 := by
    have h1 : most.tmod 200 = most % 200 := Int.tmod_eq_emod_of_nonneg hm
    rw [h1, Go.IntWalk.wrap64_in _ (by omega)]
    exact ⟨(most % 200).toNat, by omega, by omega⟩
  have HN := Lib.hid hN
  have HN2 := Lib.hid hN2
  clear hs1 hs2 hF hw1 hN hN2 hm
  have A := (Blk.new w #[.int .i64 kd, .slice u1 u2 u3, .slice u4 u5 u6] 25).alloc (.cells #[.int .i64 kd', .slice z1 z2 z3, .slice z4 z5 z6] 25)
  have B := Blk.new_at (W := w.alloc (.cells #[.int .i64 kd, .slice u1 u2 u3, .slice u4 u5 u6] 25)) (g := w.heap.size + 1) (by simp) #[.int .i64 kd', .slice z1 z2 z3, .slice z4 z5 z6] 25
  have HB : Hid (Below w.heap.size w ((w.alloc (.cells #[.int .i64 kd, .slice u1 u2 u3, .slice u4 u5 u6] 25)).alloc (.cells #[.int .i64 kd', .slice z1 z2 z3, .slice z4 z5 z6] 25))) := Lib.hid (by repeat (first | exact Below.refl _ _ | refine Below.alloc ?_ (by simp <;> omega) _))
  refine (callsIn_wide (n := 5)).1 ?_
  refine callsIn_of_wp_marks Tryd.func5 rfl trivial ?_ rfl
  simp only [Tryd.ntmps5, List.size_toArray, List.length_cons, List.length_nil, Nat.reduceAdd, Nat.reduceSub, Array.replicate_succ, Array.replicate_zero, List.push_toArray, List.append_toArray, List.nil_append, List.cons_append]
  gi_upto_region 1 with (fail)
  obtain ⟨W, hW⟩ : ∃ W, (w.alloc (.cells #[.int .i64 kd, .slice u1 u2 u3, .slice u4 u5 u6] 25)).alloc (.cells #[.int .i64 kd', .slice z1 z2 z3, .slice z4 z5 z6] 25) = W := ⟨_, rfl⟩
  rw [hW] at A B HB ⊢
  clear hW
  have HG := Lib.hid HB.out.size
  obtain ⟨a0, a1, a2⟩ := Blk.cells3 A
  obtain ⟨b0, b1, b2⟩ := Blk.cells3 B
  have HC1 := Lib.hid (HL1.out W HB.out.size (HS1.out.keep (KeepB.bel HB.out)))
  cases hl1 : light s1
  case false =>
    rw [hl1] at HC1
    clear hl1
    gi_wp2_with ((try refine ⟨trivial, ?_⟩); gi_at_call 15; refine (callsIn_wide.2 (HC1.out)).mono ?_; rintro e W1 ⟨rfl, hb1⟩)
    refine ⟨trivial, ?_⟩
    have HLV := Lib.hid (lives13 W1 (by have := HG.out; have := hb1.size; have := HW1.out; omega) (HF.out.bel (bthen HB.out hb1)))
    gi_wp2_with ((try refine ⟨trivial, ?_⟩); gi_at_call 16; refine (callsIn_wide.2 (HLV.out)).mono ?_; rintro e W2 ⟨rfl, hb2⟩)
    refine ⟨.bool true, ?_, rfl, bthen HB.out (bthen hb1 hb2)⟩
    simp [results, Tryd.results5, go_sem]
  rw [hl1] at HC1
  have HL1 := Lib.hid hl1
  clear hl1
  cases hl2 : light s2
  case false =>
    gi_wp2_with ((try refine ⟨trivial, ?_⟩); first
      | (gi_at_call 16; refine (callsIn_wide.2 (HLV.out)).mono ?_; rintro e W3 ⟨rfl, hb3⟩)
      | (gi_at_call 15; refine (callsIn_wide.2 (HC2.out)).mono ?_; rintro e W2 ⟨rfl, hb2⟩; have HLV := Lib.hid (lives13 W2 (by have := HG.out; have := hb1.size; have := hb2.size; have := HW1.out; omega) (HF.out.bel (bthen HB.out (bthen hb1 hb2)))))
      | (gi_at_call 15; refine (callsIn_wide.2 (HC1.out)).mono ?_; rintro e W1 ⟨rfl, hb1⟩; have HC2 := Lib.hid (HL2.out W1 (bthen HB.out hb1).size (HS2.out.keep (KeepB.bel (bthen HB.out hb1)))); rw [hl2] at HC2; clear hl2; have B1 := Blk.bel B hb1; clear a0 a1 a2 b0 b1 b2; obtain ⟨b0, b1, b2⟩ := Blk.cells3 B1))
    refine ⟨.bool true, ?_, rfl, bthen HB.out (bthen hb1 (bthen hb2 hb3))⟩
    simp [results, Tryd.results5, go_sem]
  gi_upto_region 3 with ((try refine ⟨trivial, ?_⟩); first
      | (gi_at_call 15; refine (callsIn_wide.2 (HC2.out)).mono ?_; rintro e W2 ⟨rfl, hb2⟩)
      | (gi_at_call 15; refine (callsIn_wide.2 (HC1.out)).mono ?_; rintro e W1 ⟨rfl, hb1⟩; have HC2 := Lib.hid (HL2.out W1 (bthen HB.out hb1).size (HS2.out.keep (KeepB.bel (bthen HB.out hb1)))); rw [hl2] at HC2; have B1 := Blk.bel B hb1; clear a0 a1 a2 b0 b1 b2; obtain ⟨b0, b1, b2⟩ := Blk.cells3 B1))
  have HB2 := Lib.hid (bthen HB.out (bthen hb1 hb2))
  have A2 := Blk.bel (Blk.bel A hb1) hb2
  have B2 := Blk.bel B1 hb2
  have HG2 := Lib.hid (Nat.le_trans HG.out (Nat.le_trans hb1.size hb2.size))
  clear A B B1 HC1 HC2 HB hb1 hb2 hl2 b0 b1 b2 HG
  obtain ⟨a0, a1, a2⟩ := Blk.cells3 A2
  gi_upto_region 4 with ((try refine ⟨trivial, ?_⟩); gi_at_call 28; refine (All_in Fence.wide _ trivial rfl _ _ _ _).mono ?_; rintro e w' ⟨rfl, rfl⟩)
  have C3 := Blk.new W2 #[.int .i64 kd, .slice u1 u2 u3, .slice u4 u5 u6] 25
  have A3 := Blk.alloc A2 (.cells #[.int .i64 kd, .slice u1 u2 u3, .slice u4 u5 u6] 25)
  have B3 := Blk.alloc B2 (.cells #[.int .i64 kd, .slice u1 u2 u3, .slice u4 u5 u6] 25)
  have HB3 := Lib.hid (HB2.out.alloc HB2.out.size (.cells #[.int .i64 kd, .slice u1 u2 u3, .slice u4 u5 u6] 25))
  obtain ⟨W3, hW⟩ : ∃ X, W2.alloc (.cells #[.int .i64 kd, .slice u1 u2 u3, .slice u4 u5 u6] 25) = X := ⟨_, rfl⟩
  rw [hW] at A3 B3 C3 HB3 ⊢
  obtain ⟨b, hb⟩ : ∃ g, W2.heap.size = g := ⟨_, rfl⟩
  rw [hb] at C3 ⊢
  clear hW hb a0 a1 a2 A2 B2 HB2 HG2
  have qn := nilF (.func 56) #[] #[.pointer (some ⟨b, 0, none⟩)]
  gi_upto_region 6 with (fail)
  clear qn
  gi_upto_region 7 with (fail)
  rw [HN.out]
  have C4 := C3.alloc (.cells #[.int .i64 N] 3)
  have A4 := A3.alloc (.cells #[.int .i64 N] 3)
  have B4 := B3.alloc (.cells #[.int .i64 N] 3)
  have G4 := Blk.new W3 #[.int .i64 N] 3
  have HB4 := Lib.hid (HB3.out.alloc HB3.out.size (.cells #[.int .i64 N] 3))
  obtain ⟨W4, hW⟩ : ∃ X, W3.alloc (.cells #[.int .i64 N] 3) = X := ⟨_, rfl⟩
  rw [hW] at A4 B4 C4 G4 HB4 ⊢
  obtain ⟨gn, hg⟩ : ∃ g, W3.heap.size = g := ⟨_, rfl⟩
  rw [hg] at G4 ⊢
  clear hW hg A3 B3 C3 HB3
  gi_upto_region 8 with (fail)
  have C5 := C4.alloc (.cells #[.slice none 0 0] 22)
  have A5 := A4.alloc (.cells #[.slice none 0 0] 22)
  have B5 := B4.alloc (.cells #[.slice none 0 0] 22)
  have N5 := G4.alloc (.cells #[.slice none 0 0] 22)
  have G5 := Blk.new W4 #[.slice none 0 0] 22
  have HB5 := Lib.hid (HB4.out.alloc HB4.out.size (.cells #[.slice none 0 0] 22))
  have HBB4 := Lib.hid HB4.out.size
  obtain ⟨W5, hW⟩ : ∃ X, W4.alloc (.cells #[.slice none 0 0] 22) = X := ⟨_, rfl⟩
  rw [hW] at A5 B5 C5 N5 G5 HB5 ⊢
  obtain ⟨g, hg⟩ : ∃ g, W4.heap.size = g := ⟨_, rfl⟩
  rw [hg] at G5 HBB4 ⊢
  clear hW hg A4 B4 C4 G4 HB4
  gi_wp2
  have hrow : RowOk w.heap.size g W5 := ⟨HBB4.out, Blk.lt G5, fun q hq => by rw [rowB_blk G5] at hq; simp [Value.ownBlock] at hq⟩
  have hs5 : ShB w.heap.size W5 D1 (.int .i64 kd, .slice u1 u2 u3, .slice u4 u5 u6) s1 := HS1.out.keep (KeepB.bel HB5.out)
  have hg5 := Blk.lt G5
  have hI5 : EqI w g gn N #[.int .i64 kd, .slice u1 u2 u3, .slice u4 u5 u6] #[.int .i64 kd', .slice z1 z2 z3, .slice z4 z5 z6] [] W5 := ⟨⟨_, G5, RPt.nil _ _⟩, N5, A5, B5, HB5.out⟩
  have hC5 := C5
  have HLE := Lib.hid HB5.out.size
  have hgn : Hid (g ≠ gn ∧ g ≠ w.heap.size ∧ g ≠ w.heap.size + 1) := Lib.hid ⟨by intro e; subst e; have := G5.symm.trans N5; simp at this, by intro e; subst e; have := G5.symm.trans A5; simp at this, by intro e; subst e; have := G5.symm.trans B5; simp at this⟩
  clear A5 B5 C5 N5 G5 HB5 HBB4
  rename_i K9 a9
  have TAIL : ∀ (D9 : Nat) (W : World), W5.heap.size ≤ D9 → EqI w g gn N #[.int .i64 kd, .slice u1 u2 u3, .slice u4 u5 u6] #[.int .i64 kd', .slice z1 z2 z3, .slice z4 z5 z6] (s1.flat.take N) W → W.heap[D9]? = some (.deferred (some [])) → K9 { tmps := #[.agg #[.int .i64 kd, .slice u1 u2 u3, .slice u4 u5 u6], .agg #[.int .i64 kd', .slice z1 z2 z3, .slice z4 z5 z6], .int .u64 most, .pointer (some ⟨w.heap.size, 0, none⟩), .pointer (some ⟨w.heap.size + 1, 0, none⟩), undef, .bool false, .func (.func 56) #[] #[.pointer (some ⟨b, 0, none⟩)], .pointer (some ⟨gn, 0, none⟩), .pointer (some ⟨g, 0, none⟩), undef, undef, .agg #[.int .i64 kd, .slice u1 u2 u3, .slice u4 u5 u6], .bool true, .bool false, .bool false, .agg #[.int .i64 kd', .slice z1 z2 z3, .slice z4 z5 z6], .bool true, .bool false, .bool false, undef, .agg #[.int .i64 kd, .slice u1 u2 u3, .slice u4 u5 u6], .func (.func 56) #[] #[.pointer (some ⟨b, 0, none⟩)], .func (.func 56) #[] #[.pointer (some ⟨b, 0, none⟩)], .bool false, .int .u64 most, .int .u64 (most.tmod 200), .int .i64 N, .func (.func 56) #[] #[.pointer (some ⟨b, 0, none⟩)], undef, undef, undef, undef, undef, undef, undef, undef, undef, undef, undef, undef, undef, undef, undef, undef, undef, undef, undef, undef, undef, undef, undef, undef, undef, undef, undef, undef, undef, undef, undef, undef, undef], defers := [{ target := .collected D9, args := #[] }] } W := by
    clear hrow hs5 hI5 hC5
    rintro D9 W hD ⟨⟨v, hg1, hrp⟩, hn1, ha1, hb1, hbw⟩ hK
    refine a9 _ _ ?_
    clear a9
    refine wpIn_wide.2 ?_
    have HSH1 := Lib.hid (fun W' (h : Bel W W') => HS1.out.keep (KeepB.bel (bthen hbw h)))
    have HSH2 := Lib.hid (fun W' (h : Bel W W') => HS2.out.keep (KeepB.bel (bthen hbw h)))
    have HSZ := Lib.hid hbw.size
    have HRA := Lib.hid (rAll_calls D1 s1 _ W w.heap.size hbw.size (HSH1.out W (Bel.refl W)) (by have := MShape.light_is HL1.out; omega))
    obtain ⟨a0, a1, a2⟩ := Blk.cells3 ha1
    go_upto_region 13 with (go_at_call 29; refine (HRA.out).mono ?_; rintro e W6 ⟨v6, rfl, hr6, hb6⟩; obtain ⟨A6, c6, hv6, hc6, hC6⟩ := hr6.reads)
    have BA6 := Blk.bel ha1 hb6
    have BB6 := Blk.bel hb1 hb6
    have BG6 := Blk.bel hg1 hb6
    have BN6 := Blk.bel hn1 hb6
    have hrp6 := hrp.below hb6
    obtain ⟨A7, c7, rfl, hc7, hC7⟩ := id hrp6.reads
    have hP7 := hC7.pts hc7
    have hP6 := hC6.pts hc6
    have HB6 := Lib.hid (bthen hbw hb6)
    have HK6 : Hid (W6.heap[D9]? = some (.deferred (some []))) := Lib.hid ((hb6.block D9 (Array.getElem?_eq_some_iff.1 hK).1).trans hK)
    have HD9 := Lib.hid (show w.heap.size ≤ D9 from Nat.le_trans HLE.out hD)
    have HF6 := Lib.hid (HF.out.bel HB6.out)
    have HSX1 := Lib.hid (HSH1.out W6 hb6)
    have HSX2 := Lib.hid (HSH2.out W6 hb6)
    obtain ⟨fl, hfl⟩ : ∃ l, s1.flat = l := ⟨_, rfl⟩
    rw [hfl] at hP6 hP7 BG6 ⊢
    obtain ⟨n6, hn6⟩ : ∃ n, (fl.take N).length = n := ⟨_, rfl⟩
    rw [hn6] at hP7 BG6
    have HN6 := Lib.hid hn6
    have HP6 := Lib.hid hP6
    have HP7 := Lib.hid hP7
    have HC6 := Lib.hid (show fl.length ≤ c6 by rw [← hfl]; exact hc6)
    have n0 : W6.cell? ⟨gn, 0, none⟩ = some (.int .i64 N) := Blk.cell BN6 0 rfl
    clear a0 a1 a2 hP6 hP7 hrp hrp6 hC7 hc7 hC6 hc6 hr6 hb6 hK hD hfl hn6 hg1 hn1 ha1 hb1 hbw HRA HSH1 HSH2
    by_cases hgt : N < fl.length
    · have hd : decide (N < fl.length) = true := decide_eq_true hgt
      have hnn : n6 = N := by rw [← HN6.out, List.length_take]; omega
      subst hnn
      have HQ6 := Lib.hid (HP6.out.take (Nat.le_of_lt hgt))
      have hcap : n6 ≤ c6 := by have := HC6.out; omega
      clear HN6
      have HGT := Lib.hid hgt
      clear hgt
      obtain ⟨q, hq⟩ : ∃ q, eqS s1 s2 = q := ⟨_, rfl⟩
      have HE1 : Hid (∀ W', Bel W6 W' → Calls Tryd.prog 30 #[.agg #[.int .i64 kd, .slice u1 u2 u3, .slice u4 u5 u6], .agg #[.int .i64 kd', .slice z1 z2 z3, .slice z4 z5 z6]] W' fun e w'' => e = .returned (.bool q) ∧ Bel W' w'') := Lib.hid (fun W' h => by have h9 := equal_calls D1 D2 s1 s2 _ _ W' w.heap.size (Nat.le_trans HB6.out.size h.size) (HSX1.out.keep (KeepB.bel h)) (HSX2.out.keep (KeepB.bel h)); rw [hq] at h9; exact h9)
      have HE2 : Hid (∀ W', Bel W6 W' → Calls Tryd.prog 31 #[.agg #[.int .i64 kd, .slice u1 u2 u3, .slice u4 u5 u6], .agg #[.int .i64 kd', .slice z1 z2 z3, .slice z4 z5 z6]] W' fun e w'' => e = .returned (.bool q) ∧ Bel W' w'') := Lib.hid (fun W' h => by have h9 := rEqual_calls D1 D2 s1 s2 _ _ W' w.heap.size (Nat.le_trans HB6.out.size h.size) (HSX1.out.keep (KeepB.bel h)) (HSX2.out.keep (KeepB.bel h)); rw [hq] at h9; exact h9)
      have HSM : Hid (∀ W', Bel W6 W' → Calls Tryd.prog 32 #[.slice A7 n6 c7, .slice A6 n6 c6] W' fun e w'' => e = .returned (.bool true) ∧ Bel W' w'') := Lib.hid (fun W' h => same_calls _ _ _ _ W' W6.heap.size (HP7.out.keep (KeepB.bel h)) (HQ6.out.keep (KeepB.bel h)) true ((MShape.eqPts_iff _ _).2 rfl))
      have HLV : Hid (∀ W', Bel W6 W' → Calls Tryd.prog 16 #[] W' fun e w'' => e = .returned (.bool true) ∧ Bel W' w'') := Lib.hid (fun W' h => lives13 W' (by have := HW1.out; have := HB6.out.size; have := h.size; omega) (HF6.out.bel h))
      clear hq
      go_upto_region 15 with (fail)
      refine Reg.region_mono (P := Tryd.prog) (Ext := Bel) (R := fun i v W => match i with
          | 0 => v = .agg #[.int .i64 kd, .slice u1 u2 u3, .slice u4 u5 u6]
          | 1 => v = .agg #[.int .i64 kd', .slice z1 z2 z3, .slice z4 z5 z6]
          | 2 => v = .bool q
          | 3 => v = .agg #[.int .i64 kd, .slice u1 u2 u3, .slice u4 u5 u6]
          | 4 => v = .agg #[.int .i64 kd', .slice z1 z2 z3, .slice z4 z5 z6]
          | 5 => v = .bool q
          | 6 => v = .bool true
          | 7 => v = .bool true
          | 8 => v = .slice A7 n6 c7
          | 9 => v = .slice A6 n6 c6
          | 10 => v = .bool true
          | 11 => v = .bool true
          | 12 => v = .bool true
          | 13 => v = .bool true
          | 14 => v = .bool true
          | 15 => v = .bool true
          | _ => True) (fun W => Below W6.heap.size W6 W) rfl (by kernel_rfl) (by kernel_rfl) (Bel.drew W6) (fun W W' h h' => bthen h h') Bel.refl (by intro j v W W' hx h; split at h <;> exact h) ?_ ?_
      · intro i oi hoi a W hW need old
        match i, hoi with
        | 0, hoi =>
          simp only [List.getElem?_toArray, List.getElem?_cons_succ, List.getElem?_cons_zero, Option.some.injEq] at hoi
          subst hoi
          refine Reg.ob_plain rfl ?_
          have e3 : a.eval (.tmp 3) = .pointer (some ⟨w.heap.size, 0, none⟩) := old 3 (by kernel_rfl)
          obtain ⟨c0, c1, c2⟩ := Blk.cells3 (Blk.bel BA6 hW)
          refine Reg.wp_val (W' := W) (v := .agg #[.int .i64 kd, .slice u1 u2 u3, .slice u4 u5 u6]) (by simp only [execOp, e3, Reg.eval_const, resolve, invoke, builtin, List.map_toArray, List.map_cons, List.map_nil, Option.map_some, Option.map_none]; (first | rfl | go_simp | (go_simp; rfl))) ⟨_, rfl, Bel.refl W, rfl⟩
        | 1, hoi =>
          simp only [List.getElem?_toArray, List.getElem?_cons_succ, List.getElem?_cons_zero, Option.some.injEq] at hoi
          subst hoi
          refine Reg.ob_plain rfl ?_
          have e4 : a.eval (.tmp 4) = .pointer (some ⟨w.heap.size + 1, 0, none⟩) := old 4 (by kernel_rfl)
          obtain ⟨c0, c1, c2⟩ := Blk.cells3 (Blk.bel BB6 hW)
          refine Reg.wp_val (W' := W) (v := .agg #[.int .i64 kd', .slice z1 z2 z3, .slice z4 z5 z6]) (by simp only [execOp, e4, Reg.eval_const, resolve, invoke, builtin, List.map_toArray, List.map_cons, List.map_nil, Option.map_some, Option.map_none]; (first | rfl | go_simp | (go_simp; rfl))) ⟨_, rfl, Bel.refl W, rfl⟩
        | 2, hoi =>
          simp only [List.getElem?_toArray, List.getElem?_cons_succ, List.getElem?_cons_zero, Option.some.injEq] at hoi
          subst hoi
          refine Reg.ob_plain rfl ?_
          have e47 : a.eval (.tmp 47) = .agg #[.int .i64 kd, .slice u1 u2 u3, .slice u4 u5 u6] := need 0 _ 47 rfl rfl (by kernel_rfl)
          have e48 : a.eval (.tmp 48) = .agg #[.int .i64 kd', .slice z1 z2 z3, .slice z4 z5 z6] := need 1 _ 48 rfl rfl (by kernel_rfl)
          refine Reg.wp_call (f := 30) (args := #[.agg #[.int .i64 kd, .slice u1 u2 u3, .slice u4 u5 u6], .agg #[.int .i64 kd', .slice z1 z2 z3, .slice z4 z5 z6]]) (by simp only [execOp, e47, e48, Reg.eval_const, resolve, invoke, List.map_toArray, List.map_cons, List.map_nil]; go_simp) ?_
          refine (HE1.out _ hW).mono ?_
          rintro e W' ⟨rfl, hb⟩; exact ⟨_, rfl, _, rfl, hb, rfl⟩
        | 3, hoi =>
          simp only [List.getElem?_toArray, List.getElem?_cons_succ, List.getElem?_cons_zero, Option.some.injEq] at hoi
          subst hoi
          refine Reg.ob_plain rfl ?_
          have e3 : a.eval (.tmp 3) = .pointer (some ⟨w.heap.size, 0, none⟩) := old 3 (by kernel_rfl)
          obtain ⟨c0, c1, c2⟩ := Blk.cells3 (Blk.bel BA6 hW)
          refine Reg.wp_val (W' := W) (v := .agg #[.int .i64 kd, .slice u1 u2 u3, .slice u4 u5 u6]) (by simp only [execOp, e3, Reg.eval_const, resolve, invoke, builtin, List.map_toArray, List.map_cons, List.map_nil, Option.map_some, Option.map_none]; (first | rfl | go_simp | (go_simp; rfl))) ⟨_, rfl, Bel.refl W, rfl⟩
        | 4, hoi =>
          simp only [List.getElem?_toArray, List.getElem?_cons_succ, List.getElem?_cons_zero, Option.some.injEq] at hoi
          subst hoi
          refine Reg.ob_plain rfl ?_
          have e4 : a.eval (.tmp 4) = .pointer (some ⟨w.heap.size + 1, 0, none⟩) := old 4 (by kernel_rfl)
          obtain ⟨c0, c1, c2⟩ := Blk.cells3 (Blk.bel BB6 hW)
          refine Reg.wp_val (W' := W) (v := .agg #[.int .i64 kd', .slice z1 z2 z3, .slice z4 z5 z6]) (by simp only [execOp, e4, Reg.eval_const, resolve, invoke, builtin, List.map_toArray, List.map_cons, List.map_nil, Option.map_some, Option.map_none]; (first | rfl | go_simp | (go_simp; rfl))) ⟨_, rfl, Bel.refl W, rfl⟩
        | 5, hoi =>
          simp only [List.getElem?_toArray, List.getElem?_cons_succ, List.getElem?_cons_zero, Option.some.injEq] at hoi
          subst hoi
          refine Reg.ob_plain rfl ?_
          have e50 : a.eval (.tmp 50) = .agg #[.int .i64 kd, .slice u1 u2 u3, .slice u4 u5 u6] := need 3 _ 50 rfl rfl (by kernel_rfl)
          have e51 : a.eval (.tmp 51) = .agg #[.int .i64 kd', .slice z1 z2 z3, .slice z4 z5 z6] := need 4 _ 51 rfl rfl (by kernel_rfl)
          refine Reg.wp_call (f := 31) (args := #[.agg #[.int .i64 kd, .slice u1 u2 u3, .slice u4 u5 u6], .agg #[.int .i64 kd', .slice z1 z2 z3, .slice z4 z5 z6]]) (by simp only [execOp, e50, e51, Reg.eval_const, resolve, invoke, List.map_toArray, List.map_cons, List.map_nil]; go_simp) ?_
          refine (HE2.out _ hW).mono ?_
          rintro e W' ⟨rfl, hb⟩; exact ⟨_, rfl, _, rfl, hb, rfl⟩
        | 6, hoi =>
          simp only [List.getElem?_toArray, List.getElem?_cons_succ, List.getElem?_cons_zero, Option.some.injEq] at hoi
          subst hoi
          refine Reg.ob_plain rfl ?_
          have e49 : a.eval (.tmp 49) = .bool q := need 2 _ 49 rfl rfl (by kernel_rfl)
          have e52 : a.eval (.tmp 52) = .bool q := need 5 _ 52 rfl rfl (by kernel_rfl)
          have n1 := beq_self_eq_true q
          refine Reg.wp_val (W' := W) (v := .bool true) (by simp only [execOp, e49, e52, Reg.eval_const, resolve, invoke, builtin, List.map_toArray, List.map_cons, List.map_nil, Option.map_some, Option.map_none]; (first | rfl | go_simp | (go_simp; rfl))) ⟨_, rfl, Bel.refl W, rfl⟩
        | 7, hoi =>
          simp only [List.getElem?_toArray, List.getElem?_cons_succ, List.getElem?_cons_zero, Option.some.injEq] at hoi
          subst hoi
          refine Reg.ob_plain rfl ?_
          have e53 : a.eval (.tmp 53) = .bool true := need 6 _ 53 rfl rfl (by kernel_rfl)
          refine Reg.wp_val (W' := W) (v := _) (by simp only [execOp, e53, Reg.eval_const]; rfl) ⟨_, rfl, Bel.refl W, rfl⟩
        | 8, hoi =>
          simp only [List.getElem?_toArray, List.getElem?_cons_succ, List.getElem?_cons_zero, Option.some.injEq] at hoi
          subst hoi
          have eg : a.eval (.tmp 54) = .bool true := need 7 _ 54 rfl rfl (by kernel_rfl)
          refine Reg.ob_yes rfl rfl rfl eg ?_
          have e9 : a.eval (.tmp 9) = .pointer (some ⟨g, 0, none⟩) := old 9 (by kernel_rfl)
          have c0 : W.cell? ⟨g, 0, none⟩ = some (.slice A7 n6 c7) := Blk.cell (Blk.bel BG6 hW) 0 rfl
          refine Reg.wp_val (W' := W) (v := .slice A7 n6 c7) (by simp only [execOp, e9, Reg.eval_const, resolve, invoke, builtin, List.map_toArray, List.map_cons, List.map_nil, Option.map_some, Option.map_none]; (first | rfl | go_simp | (go_simp; rfl))) ⟨_, rfl, Bel.refl W, rfl⟩
        | 9, hoi =>
          simp only [List.getElem?_toArray, List.getElem?_cons_succ, List.getElem?_cons_zero, Option.some.injEq] at hoi
          subst hoi
          have eg : a.eval (.tmp 54) = .bool true := need 7 _ 54 rfl rfl (by kernel_rfl)
          refine Reg.ob_yes rfl rfl rfl eg ?_
          have e11 : a.eval (.tmp 11) = .slice A6 n6 c6 := old 11 (by kernel_rfl)
          refine Reg.wp_val (W' := W) (v := _) (by simp only [execOp, e11, Reg.eval_const]; rfl) ⟨_, rfl, Bel.refl W, rfl⟩
        | 10, hoi =>
          simp only [List.getElem?_toArray, List.getElem?_cons_succ, List.getElem?_cons_zero, Option.some.injEq] at hoi
          subst hoi
          have eg : a.eval (.tmp 54) = .bool true := need 7 _ 54 rfl rfl (by kernel_rfl)
          refine Reg.ob_yes rfl rfl rfl eg ?_
          have e55 : a.eval (.tmp 55) = .slice A7 n6 c7 := need 8 _ 55 rfl rfl (by kernel_rfl)
          have e56 : a.eval (.tmp 56) = .slice A6 n6 c6 := need 9 _ 56 rfl rfl (by kernel_rfl)
          refine Reg.wp_call (f := 32) (args := #[.slice A7 n6 c7, .slice A6 n6 c6]) (by simp only [execOp, e55, e56, Reg.eval_const, resolve, invoke, List.map_toArray, List.map_cons, List.map_nil]; go_simp) ?_
          refine (HSM.out _ hW).mono ?_
          rintro e W' ⟨rfl, hb⟩; exact ⟨_, rfl, _, rfl, hb, rfl⟩
        | 11, hoi =>
          simp only [List.getElem?_toArray, List.getElem?_cons_succ, List.getElem?_cons_zero, Option.some.injEq] at hoi
          subst hoi
          refine Reg.ob_plain rfl ?_
          have e54 : a.eval (.tmp 54) = .bool true := need 7 _ 54 rfl rfl (by kernel_rfl)
          have e57 : a.eval (.tmp 57) = .bool true := need 10 _ 57 rfl rfl (by kernel_rfl)
          refine Reg.wp_val (W' := W) (v := .bool true) (by simp only [execOp, e54, e57, Reg.eval_const, resolve, invoke, builtin, List.map_toArray, List.map_cons, List.map_nil, Option.map_some, Option.map_none]; (first | rfl | go_simp | (go_simp; rfl))) ⟨_, rfl, Bel.refl W, rfl⟩
        | 12, hoi =>
          simp only [List.getElem?_toArray, List.getElem?_cons_succ, List.getElem?_cons_zero, Option.some.injEq] at hoi
          subst hoi
          refine Reg.ob_plain rfl ?_
          have e58 : a.eval (.tmp 58) = .bool true := need 11 _ 58 rfl rfl (by kernel_rfl)
          refine Reg.wp_val (W' := W) (v := _) (by simp only [execOp, e58, Reg.eval_const]; rfl) ⟨_, rfl, Bel.refl W, rfl⟩
        | 13, hoi =>
          simp only [List.getElem?_toArray, List.getElem?_cons_succ, List.getElem?_cons_zero, Option.some.injEq] at hoi
          subst hoi
          have eg : a.eval (.tmp 59) = .bool true := need 12 _ 59 rfl rfl (by kernel_rfl)
          refine Reg.ob_yes rfl rfl rfl eg ?_
          refine Reg.wp_call (f := 16) (args := #[]) (by simp only [execOp, Reg.eval_const, resolve, invoke, List.map_toArray, List.map_cons, List.map_nil]; go_simp) ?_
          refine (HLV.out _ hW).mono ?_
          rintro e W' ⟨rfl, hb⟩; exact ⟨_, rfl, _, rfl, hb, rfl⟩
        | 14, hoi =>
          simp only [List.getElem?_toArray, List.getElem?_cons_succ, List.getElem?_cons_zero, Option.some.injEq] at hoi
          subst hoi
          refine Reg.ob_plain rfl ?_
          have e59 : a.eval (.tmp 59) = .bool true := need 12 _ 59 rfl rfl (by kernel_rfl)
          have e60 : a.eval (.tmp 60) = .bool true := need 13 _ 60 rfl rfl (by kernel_rfl)
          refine Reg.wp_val (W' := W) (v := .bool true) (by simp only [execOp, e59, e60, Reg.eval_const, resolve, invoke, builtin, List.map_toArray, List.map_cons, List.map_nil, Option.map_some, Option.map_none]; (first | rfl | go_simp | (go_simp; rfl))) ⟨_, rfl, Bel.refl W, rfl⟩
        | 15, hoi =>
          simp only [List.getElem?_toArray, List.getElem?_cons_succ, List.getElem?_cons_zero, Option.some.injEq] at hoi
          subst hoi
          refine Reg.ob_plain rfl ?_
          have e61 : a.eval (.tmp 61) = .bool true := need 14 _ 61 rfl rfl (by kernel_rfl)
          refine Reg.wp_val (W' := W) (v := _) (by simp only [execOp, e61, Reg.eval_const]; rfl) ⟨_, rfl, Bel.refl W, rfl⟩
        | n + 16, hoi => simp at hoi
      · intro a W8 hW hsize hdef got same did
        have ha := Reg.act_of [47, 48, 49, 50, 51, 52, 53, 54, 55, 56, 57, 58, 59, 60, 61, 6] hsize hdef same (by kernel_rfl)
        simp only [List.foldl_cons, List.foldl_nil] at ha
        generalize a.tmps.getD 47 undef = y47 at ha
        generalize a.tmps.getD 48 undef = y48 at ha
        generalize a.tmps.getD 49 undef = y49 at ha
        generalize a.tmps.getD 50 undef = y50 at ha
        generalize a.tmps.getD 51 undef = y51 at ha
        generalize a.tmps.getD 52 undef = y52 at ha
        generalize a.tmps.getD 53 undef = y53 at ha
        generalize a.tmps.getD 54 undef = y54 at ha
        generalize a.tmps.getD 55 undef = y55 at ha
        generalize a.tmps.getD 56 undef = y56 at ha
        generalize a.tmps.getD 57 undef = y57 at ha
        generalize a.tmps.getD 58 undef = y58 at ha
        generalize a.tmps.getD 59 undef = y59 at ha
        generalize a.tmps.getD 60 undef = y60 at ha
        generalize a.tmps.getD 61 undef = y61 at ha
        have k6 := got 15 _ 6 rfl rfl
        simp only at k6
        rw [k6] at ha
        clear k6
        clear got same hsize hdef did
        subst ha
        simp only [List.setIfInBounds_toArray, List.set_cons_zero, List.set_cons_succ]
        go_wp2
        have K9 : W8.heap[D9]? = some (.deferred (some [])) := (hW.block D9 (Array.getElem?_eq_some_iff.1 HK6.out).1).trans HK6.out
        have HB9 := bthen HB6.out hW
        refine ⟨by simp, .inl ⟨_, _, rfl, run_takeDeferred K9, ?_⟩⟩
        refine ⟨.bool true, ?_, rfl, below_put9 HB9 HD9.out _⟩
        simp [results, Tryd.results5, go_sem]
    · have hd : decide (N < fl.length) = false := decide_eq_false hgt
      have htk : fl.take N = fl := List.take_of_length_le (by omega)
      have hnn : n6 = fl.length := by rw [← HN6.out, htk]
      have HQ6 : Hid (PtsB W6.heap.size W6 (.slice A6 n6 c6) (fl.take N)) := Lib.hid (by rw [htk, hnn]; exact HP6.out)
      clear hgt htk HP6 HN6
      rw [← hnn] at hd ⊢
      clear hnn
      obtain ⟨q, hq⟩ : ∃ q, eqS s1 s2 = q := ⟨_, rfl⟩
      have HE1 : Hid (∀ W', Bel W6 W' → Calls Tryd.prog 30 #[.agg #[.int .i64 kd, .slice u1 u2 u3, .slice u4 u5 u6], .agg #[.int .i64 kd', .slice z1 z2 z3, .slice z4 z5 z6]] W' fun e w'' => e = .returned (.bool q) ∧ Bel W' w'') := Lib.hid (fun W' h => by have h9 := equal_calls D1 D2 s1 s2 _ _ W' w.heap.size (Nat.le_trans HB6.out.size h.size) (HSX1.out.keep (KeepB.bel h)) (HSX2.out.keep (KeepB.bel h)); rw [hq] at h9; exact h9)
      have HE2 : Hid (∀ W', Bel W6 W' → Calls Tryd.prog 31 #[.agg #[.int .i64 kd, .slice u1 u2 u3, .slice u4 u5 u6], .agg #[.int .i64 kd', .slice z1 z2 z3, .slice z4 z5 z6]] W' fun e w'' => e = .returned (.bool q) ∧ Bel W' w'') := Lib.hid (fun W' h => by have h9 := rEqual_calls D1 D2 s1 s2 _ _ W' w.heap.size (Nat.le_trans HB6.out.size h.size) (HSX1.out.keep (KeepB.bel h)) (HSX2.out.keep (KeepB.bel h)); rw [hq] at h9; exact h9)
      have HSM : Hid (∀ W', Bel W6 W' → Calls Tryd.prog 32 #[.slice A7 n6 c7, .slice A6 n6 c6] W' fun e w'' => e = .returned (.bool true) ∧ Bel W' w'') := Lib.hid (fun W' h => same_calls _ _ _ _ W' W6.heap.size (HP7.out.keep (KeepB.bel h)) (HQ6.out.keep (KeepB.bel h)) true ((MShape.eqPts_iff _ _).2 rfl))
      have HLV : Hid (∀ W', Bel W6 W' → Calls Tryd.prog 16 #[] W' fun e w'' => e = .returned (.bool true) ∧ Bel W' w'') := Lib.hid (fun W' h => lives13 W' (by have := HW1.out; have := HB6.out.size; have := h.size; omega) (HF6.out.bel h))
      clear hq
      go_upto_region 15 with (fail)
      refine Reg.region_mono (P := Tryd.prog) (Ext := Bel) (R := fun i v W => match i with
          | 0 => v = .agg #[.int .i64 kd, .slice u1 u2 u3, .slice u4 u5 u6]
          | 1 => v = .agg #[.int .i64 kd', .slice z1 z2 z3, .slice z4 z5 z6]
          | 2 => v = .bool q
          | 3 => v = .agg #[.int .i64 kd, .slice u1 u2 u3, .slice u4 u5 u6]
          | 4 => v = .agg #[.int .i64 kd', .slice z1 z2 z3, .slice z4 z5 z6]
          | 5 => v = .bool q
          | 6 => v = .bool true
          | 7 => v = .bool true
          | 8 => v = .slice A7 n6 c7
          | 9 => v = .slice A6 n6 c6
          | 10 => v = .bool true
          | 11 => v = .bool true
          | 12 => v = .bool true
          | 13 => v = .bool true
          | 14 => v = .bool true
          | 15 => v = .bool true
          | _ => True) (fun W => Below W6.heap.size W6 W) rfl (by kernel_rfl) (by kernel_rfl) (Bel.drew W6) (fun W W' h h' => bthen h h') Bel.refl (by intro j v W W' hx h; split at h <;> exact h) ?_ ?_
      · intro i oi hoi a W hW need old
        match i, hoi with
        | 0, hoi =>
          simp only [List.getElem?_toArray, List.getElem?_cons_succ, List.getElem?_cons_zero, Option.some.injEq] at hoi
          subst hoi
          refine Reg.ob_plain rfl ?_
          have e3 : a.eval (.tmp 3) = .pointer (some ⟨w.heap.size, 0, none⟩) := old 3 (by kernel_rfl)
          obtain ⟨c0, c1, c2⟩ := Blk.cells3 (Blk.bel BA6 hW)
          refine Reg.wp_val (W' := W) (v := .agg #[.int .i64 kd, .slice u1 u2 u3, .slice u4 u5 u6]) (by simp only [execOp, e3, Reg.eval_const, resolve, invoke, builtin, List.map_toArray, List.map_cons, List.map_nil, Option.map_some, Option.map_none]; (first | rfl | go_simp | (go_simp; rfl))) ⟨_, rfl, Bel.refl W, rfl⟩
        | 1, hoi =>
          simp only [List.getElem?_toArray, List.getElem?_cons_succ, List.getElem?_cons_zero, Option.some.injEq] at hoi
          subst hoi
          refine Reg.ob_plain rfl ?_
          have e4 : a.eval (.tmp 4) = .pointer (some ⟨w.heap.size + 1, 0, none⟩) := old 4 (by kernel_rfl)
          obtain ⟨c0, c1, c2⟩ := Blk.cells3 (Blk.bel BB6 hW)
          refine Reg.wp_val (W' := W) (v := .agg #[.int .i64 kd', .slice z1 z2 z3, .slice z4 z5 z6]) (by simp only [execOp, e4, Reg.eval_const, resolve, invoke, builtin, List.map_toArray, List.map_cons, List.map_nil, Option.map_some, Option.map_none]; (first | rfl | go_simp | (go_simp; rfl))) ⟨_, rfl, Bel.refl W, rfl⟩
        | 2, hoi =>
          simp only [List.getElem?_toArray, List.getElem?_cons_succ, List.getElem?_cons_zero, Option.some.injEq] at hoi
          subst hoi
          refine Reg.ob_plain rfl ?_
          have e47 : a.eval (.tmp 47) = .agg #[.int .i64 kd, .slice u1 u2 u3, .slice u4 u5 u6] := need 0 _ 47 rfl rfl (by kernel_rfl)
          have e48 : a.eval (.tmp 48) = .agg #[.int .i64 kd', .slice z1 z2 z3, .slice z4 z5 z6] := need 1 _ 48 rfl rfl (by kernel_rfl)
          refine Reg.wp_call (f := 30) (args := #[.agg #[.int .i64 kd, .slice u1 u2 u3, .slice u4 u5 u6], .agg #[.int .i64 kd', .slice z1 z2 z3, .slice z4 z5 z6]]) (by simp only [execOp, e47, e48, Reg.eval_const, resolve, invoke, List.map_toArray, List.map_cons, List.map_nil]; go_simp) ?_
          refine (HE1.out _ hW).mono ?_
          rintro e W' ⟨rfl, hb⟩; exact ⟨_, rfl, _, rfl, hb, rfl⟩
        | 3, hoi =>
          simp only [List.getElem?_toArray, List.getElem?_cons_succ, List.getElem?_cons_zero, Option.some.injEq] at hoi
          subst hoi
          refine Reg.ob_plain rfl ?_
          have e3 : a.eval (.tmp 3) = .pointer (some ⟨w.heap.size, 0, none⟩) := old 3 (by kernel_rfl)
          obtain ⟨c0, c1, c2⟩ := Blk.cells3 (Blk.bel BA6 hW)
          refine Reg.wp_val (W' := W) (v := .agg #[.int .i64 kd, .slice u1 u2 u3, .slice u4 u5 u6]) (by simp only [execOp, e3, Reg.eval_const, resolve, invoke, builtin, List.map_toArray, List.map_cons, List.map_nil, Option.map_some, Option.map_none]; (first | rfl | go_simp | (go_simp; rfl))) ⟨_, rfl, Bel.refl W, rfl⟩
        | 4, hoi =>
          simp only [List.getElem?_toArray, List.getElem?_cons_succ, List.getElem?_cons_zero, Option.some.injEq] at hoi
          subst hoi
          refine Reg.ob_plain rfl ?_
          have e4 : a.eval (.tmp 4) = .pointer (some ⟨w.heap.size + 1, 0, none⟩) := old 4 (by kernel_rfl)
          obtain ⟨c0, c1, c2⟩ := Blk.cells3 (Blk.bel BB6 hW)
          refine Reg.wp_val (W' := W) (v := .agg #[.int .i64 kd', .slice z1 z2 z3, .slice z4 z5 z6]) (by simp only [execOp, e4, Reg.eval_const, resolve, invoke, builtin, List.map_toArray, List.map_cons, List.map_nil, Option.map_some, Option.map_none]; (first | rfl | go_simp | (go_simp; rfl))) ⟨_, rfl, Bel.refl W, rfl⟩
        | 5, hoi =>
          simp only [List.getElem?_toArray, List.getElem?_cons_succ, List.getElem?_cons_zero, Option.some.injEq] at hoi
          subst hoi
          refine Reg.ob_plain rfl ?_
          have e50 : a.eval (.tmp 50) = .agg #[.int .i64 kd, .slice u1 u2 u3, .slice u4 u5 u6] := need 3 _ 50 rfl rfl (by kernel_rfl)
          have e51 : a.eval (.tmp 51) = .agg #[.int .i64 kd', .slice z1 z2 z3, .slice z4 z5 z6] := need 4 _ 51 rfl rfl (by kernel_rfl)
          refine Reg.wp_call (f := 31) (args := #[.agg #[.int .i64 kd, .slice u1 u2 u3, .slice u4 u5 u6], .agg #[.int .i64 kd', .slice z1 z2 z3, .slice z4 z5 z6]]) (by simp only [execOp, e50, e51, Reg.eval_const, resolve, invoke, List.map_toArray, List.map_cons, List.map_nil]; go_simp) ?_
          refine (HE2.out _ hW).mono ?_
          rintro e W' ⟨rfl, hb⟩; exact ⟨_, rfl, _, rfl, hb, rfl⟩
        | 6, hoi =>
          simp only [List.getElem?_toArray, List.getElem?_cons_succ, List.getElem?_cons_zero, Option.some.injEq] at hoi
          subst hoi
          refine Reg.ob_plain rfl ?_
          have e49 : a.eval (.tmp 49) = .bool q := need 2 _ 49 rfl rfl (by kernel_rfl)
          have e52 : a.eval (.tmp 52) = .bool q := need 5 _ 52 rfl rfl (by kernel_rfl)
          have n1 := beq_self_eq_true q
          refine Reg.wp_val (W' := W) (v := .bool true) (by simp only [execOp, e49, e52, Reg.eval_const, resolve, invoke, builtin, List.map_toArray, List.map_cons, List.map_nil, Option.map_some, Option.map_none]; (first | rfl | go_simp | (go_simp; rfl))) ⟨_, rfl, Bel.refl W, rfl⟩
        | 7, hoi =>
          simp only [List.getElem?_toArray, List.getElem?_cons_succ, List.getElem?_cons_zero, Option.some.injEq] at hoi
          subst hoi
          refine Reg.ob_plain rfl ?_
          have e53 : a.eval (.tmp 53) = .bool true := need 6 _ 53 rfl rfl (by kernel_rfl)
          refine Reg.wp_val (W' := W) (v := _) (by simp only [execOp, e53, Reg.eval_const]; rfl) ⟨_, rfl, Bel.refl W, rfl⟩
        | 8, hoi =>
          simp only [List.getElem?_toArray, List.getElem?_cons_succ, List.getElem?_cons_zero, Option.some.injEq] at hoi
          subst hoi
          have eg : a.eval (.tmp 54) = .bool true := need 7 _ 54 rfl rfl (by kernel_rfl)
          refine Reg.ob_yes rfl rfl rfl eg ?_
          have e9 : a.eval (.tmp 9) = .pointer (some ⟨g, 0, none⟩) := old 9 (by kernel_rfl)
          have c0 : W.cell? ⟨g, 0, none⟩ = some (.slice A7 n6 c7) := Blk.cell (Blk.bel BG6 hW) 0 rfl
          refine Reg.wp_val (W' := W) (v := .slice A7 n6 c7) (by simp only [execOp, e9, Reg.eval_const, resolve, invoke, builtin, List.map_toArray, List.map_cons, List.map_nil, Option.map_some, Option.map_none]; (first | rfl | go_simp | (go_simp; rfl))) ⟨_, rfl, Bel.refl W, rfl⟩
        | 9, hoi =>
          simp only [List.getElem?_toArray, List.getElem?_cons_succ, List.getElem?_cons_zero, Option.some.injEq] at hoi
          subst hoi
          have eg : a.eval (.tmp 54) = .bool true := need 7 _ 54 rfl rfl (by kernel_rfl)
          refine Reg.ob_yes rfl rfl rfl eg ?_
          have e11 : a.eval (.tmp 11) = .slice A6 n6 c6 := old 11 (by kernel_rfl)
          refine Reg.wp_val (W' := W) (v := _) (by simp only [execOp, e11, Reg.eval_const]; rfl) ⟨_, rfl, Bel.refl W, rfl⟩
        | 10, hoi =>
          simp only [List.getElem?_toArray, List.getElem?_cons_succ, List.getElem?_cons_zero, Option.some.injEq] at hoi
          subst hoi
          have eg : a.eval (.tmp 54) = .bool true := need 7 _ 54 rfl rfl (by kernel_rfl)
          refine Reg.ob_yes rfl rfl rfl eg ?_
          have e55 : a.eval (.tmp 55) = .slice A7 n6 c7 := need 8 _ 55 rfl rfl (by kernel_rfl)
          have e56 : a.eval (.tmp 56) = .slice A6 n6 c6 := need 9 _ 56 rfl rfl (by kernel_rfl)
          refine Reg.wp_call (f := 32) (args := #[.slice A7 n6 c7, .slice A6 n6 c6]) (by simp only [execOp, e55, e56, Reg.eval_const, resolve, invoke, List.map_toArray, List.map_cons, List.map_nil]; go_simp) ?_
          refine (HSM.out _ hW).mono ?_
          rintro e W' ⟨rfl, hb⟩; exact ⟨_, rfl, _, rfl, hb, rfl⟩
        | 11, hoi =>
          simp only [List.getElem?_toArray, List.getElem?_cons_succ, List.getElem?_cons_zero, Option.some.injEq] at hoi
          subst hoi
          refine Reg.ob_plain rfl ?_
          have e54 : a.eval (.tmp 54) = .bool true := need 7 _ 54 rfl rfl (by kernel_rfl)
          have e57 : a.eval (.tmp 57) = .bool true := need 10 _ 57 rfl rfl (by kernel_rfl)
          refine Reg.wp_val (W' := W) (v := .bool true) (by simp only [execOp, e54, e57, Reg.eval_const, resolve, invoke, builtin, List.map_toArray, List.map_cons, List.map_nil, Option.map_some, Option.map_none]; (first | rfl | go_simp | (go_simp; rfl))) ⟨_, rfl, Bel.refl W, rfl⟩
        | 12, hoi =>
          simp only [List.getElem?_toArray, List.getElem?_cons_succ, List.getElem?_cons_zero, Option.some.injEq] at hoi
          subst hoi
          refine Reg.ob_plain rfl ?_
          have e58 : a.eval (.tmp 58) = .bool true := need 11 _ 58 rfl rfl (by kernel_rfl)
          refine Reg.wp_val (W' := W) (v := _) (by simp only [execOp, e58, Reg.eval_const]; rfl) ⟨_, rfl, Bel.refl W, rfl⟩
        | 13, hoi =>
          simp only [List.getElem?_toArray, List.getElem?_cons_succ, List.getElem?_cons_zero, Option.some.injEq] at hoi
          subst hoi
          have eg : a.eval (.tmp 59) = .bool true := need 12 _ 59 rfl rfl (by kernel_rfl)
          refine Reg.ob_yes rfl rfl rfl eg ?_
          refine Reg.wp_call (f := 16) (args := #[]) (by simp only [execOp, Reg.eval_const, resolve, invoke, List.map_toArray, List.map_cons, List.map_nil]; go_simp) ?_
          refine (HLV.out _ hW).mono ?_
          rintro e W' ⟨rfl, hb⟩; exact ⟨_, rfl, _, rfl, hb, rfl⟩
        | 14, hoi =>
          simp only [List.getElem?_toArray, List.getElem?_cons_succ, List.getElem?_cons_zero, Option.some.injEq] at hoi
          subst hoi
          refine Reg.ob_plain rfl ?_
          have e59 : a.eval (.tmp 59) = .bool true := need 12 _ 59 rfl rfl (by kernel_rfl)
          have e60 : a.eval (.tmp 60) = .bool true := need 13 _ 60 rfl rfl (by kernel_rfl)
          refine Reg.wp_val (W' := W) (v := .bool true) (by simp only [execOp, e59, e60, Reg.eval_const, resolve, invoke, builtin, List.map_toArray, List.map_cons, List.map_nil, Option.map_some, Option.map_none]; (first | rfl | go_simp | (go_simp; rfl))) ⟨_, rfl, Bel.refl W, rfl⟩
        | 15, hoi =>
          simp only [List.getElem?_toArray, List.getElem?_cons_succ, List.getElem?_cons_zero, Option.some.injEq] at hoi
          subst hoi
          refine Reg.ob_plain rfl ?_
          have e61 : a.eval (.tmp 61) = .bool true := need 14 _ 61 rfl rfl (by kernel_rfl)
          refine Reg.wp_val (W' := W) (v := _) (by simp only [execOp, e61, Reg.eval_const]; rfl) ⟨_, rfl, Bel.refl W, rfl⟩
        | n + 16, hoi => simp at hoi
      · intro a W8 hW hsize hdef got same did
        have ha := Reg.act_of [47, 48, 49, 50, 51, 52, 53, 54, 55, 56, 57, 58, 59, 60, 61, 6] hsize hdef same (by kernel_rfl)
        simp only [List.foldl_cons, List.foldl_nil] at ha
        generalize a.tmps.getD 47 undef = y47 at ha
        generalize a.tmps.getD 48 undef = y48 at ha
        generalize a.tmps.getD 49 undef = y49 at ha
        generalize a.tmps.getD 50 undef = y50 at ha
        generalize a.tmps.getD 51 undef = y51 at ha
        generalize a.tmps.getD 52 undef = y52 at ha
        generalize a.tmps.getD 53 undef = y53 at ha
        generalize a.tmps.getD 54 undef = y54 at ha
        generalize a.tmps.getD 55 undef = y55 at ha
        generalize a.tmps.getD 56 undef = y56 at ha
        generalize a.tmps.getD 57 undef = y57 at ha
        generalize a.tmps.getD 58 undef = y58 at ha
        generalize a.tmps.getD 59 undef = y59 at ha
        generalize a.tmps.getD 60 undef = y60 at ha
        generalize a.tmps.getD 61 undef = y61 at ha
        have k6 := got 15 _ 6 rfl rfl
        simp only at k6
        rw [k6] at ha
        clear k6
        clear got same hsize hdef did
        subst ha
        simp only [List.setIfInBounds_toArray, List.set_cons_zero, List.set_cons_succ]
        go_wp2
        have K9 : W8.heap[D9]? = some (.deferred (some [])) := (hW.block D9 (Array.getElem?_eq_some_iff.1 HK6.out).1).trans HK6.out
        have HB9 := bthen HB6.out hW
        refine ⟨by simp, .inl ⟨_, _, rfl, run_takeDeferred K9, ?_⟩⟩
        refine ⟨.bool true, ?_, rfl, below_put9 HB9 HD9.out _⟩
        simp [results, Tryd.results5, go_sem]
  refine wpIn_rangeFunc_ownH (F := Fence.wide) rfl (by omega) (gf := 56) (lb := #[.pointer (some ⟨b, 0, none⟩)]) rfl trivial (enters_of Tryd.func56 (by kernel_rfl) rfl)
    (seqR_stops Fence.wide rfl 4 trivial trivial rfl b w.heap.size g D1 _ s1 W5 hC5 hrow hs5) Kr.trans (fun W l o o' hl h ho _ => Kr.put W l o o' (by omega) h ho) (Below.refl _ _) (fun _ => rfl)
    (fun pre W => EqI w g gn N #[.int .i64 kd, .slice u1 u2 u3, .slice u4 u5 u6] #[.int .i64 kd', .slice z1 z2 z3, .slice z4 z5 z6] (pre.take N) W ∧ pre.length ≤ N)
    (fun c pre W => EqI w g gn N #[.int .i64 kd, .slice u1 u2 u3, .slice u4 u5 u6] #[.int .i64 kd', .slice z1 z2 z3, .slice z4 z5 z6] (pre.take N) W ∧ N ≤ pre.length ∧ c = .exit 0)
    (fun s X Y row hs hg hr => ⟨hs.1.own HLE.out hg hr, hs.2⟩)
    (fun c s X Y row hs hg hr => ⟨hs.1.own HLE.out hg hr, hs.2⟩)
    ⟨by rw [List.take_nil]; exact hI5, Nat.zero_le _⟩
    (fun x a' W => ∃ q, g < q ∧ Blk W q #[.int .i64 x.1, .int .i64 x.2] 41 ∧ a' = { tmps := #[.agg #[.int .i64 kd, .slice u1 u2 u3, .slice u4 u5 u6], .agg #[.int .i64 kd', .slice z1 z2 z3, .slice z4 z5 z6], .int .u64 most, .pointer (some ⟨w.heap.size, 0, none⟩), .pointer (some ⟨w.heap.size + 1, 0, none⟩), undef, .bool false, .func (.func 56) #[] #[.pointer (some ⟨b, 0, none⟩)], .pointer (some ⟨gn, 0, none⟩), .pointer (some ⟨g, 0, none⟩), .pointer (some ⟨q, 0, none⟩), undef, .agg #[.int .i64 kd, .slice u1 u2 u3, .slice u4 u5 u6], .bool true, .bool false, .bool false, .agg #[.int .i64 kd', .slice z1 z2 z3, .slice z4 z5 z6], .bool true, .bool false, .bool false, undef, .agg #[.int .i64 kd, .slice u1 u2 u3, .slice u4 u5 u6], .func (.func 56) #[] #[.pointer (some ⟨b, 0, none⟩)], .func (.func 56) #[] #[.pointer (some ⟨b, 0, none⟩)], .bool false, .int .u64 most, .int .u64 (most.tmod 200), .int .i64 N, .func (.func 56) #[] #[.pointer (some ⟨b, 0, none⟩)], .agg #[.int .i64 x.1, .int .i64 x.2], undef, undef, undef, undef, undef, undef, undef, undef, undef, undef, undef, undef, undef, undef, undef, undef, undef, undef, undef, undef, undef, undef, undef, undef, undef, undef, undef, undef, undef, undef, undef, undef], defers := [] })
    (fun x a' s X Y row hx hg hr => by
      obtain ⟨q, h1, h2, h3⟩ := hx
      exact ⟨q, h1, (Own.from (blk_own (fun _ : Unit => #[.int .i64 x.1, .int .i64 x.2])) _) () X Y row h2 hg hr, h3⟩) ?assign ?body ?done ?stop
  case assign =>
    clear hs5 hrow hC5 hI5
    rintro l pre x W K ⟨hi1, hi2⟩ hK
    have hq : g < W.heap.size := by obtain ⟨⟨v, h, _⟩, _⟩ := hi1; exact Blk.lt h
    gi_wp2
    exact hK _ _ ((KeepsOthers.alloc _ _).from _) (Kr.alloc _ _) ⟨hi1.alloc _, hi2⟩ ⟨W.heap.size, hq, Blk.new W _ _, rfl⟩
  case body =>
    clear hs5 hC5 hI5
    rintro l pre x a' W hl hr ⟨⟨⟨v, hg1, hrp⟩, hn1, ha1, hb1, hbw⟩, hi2⟩ ⟨q, hq, hqb, rfl⟩ hlt
    have hrb := rowB_blk hg1
    have hne := hrp.ne hg1 (by decide)
    have hgl := Blk.lt hg1
    obtain ⟨A9, c9, rfl, hc9, hC9⟩ := id hrp.reads
    have g0 : W.cell? ⟨g, 0, none⟩ = some (.slice A9 (pre.take N).length c9) := Blk.cell hg1 0 rfl
    have n0 : W.cell? ⟨gn, 0, none⟩ = some (.int .i64 N) := Blk.cell hn1 0 rfl
    have q0 : W.cell? ⟨q, 0, none⟩ = some (.int .i64 x.1) := Blk.cell hqb 0 rfl
    have q1 : W.cell? ⟨q, 1, none⟩ = some (.int .i64 x.2) := Blk.cell hqb 1 rfl
    have f0 := hg1.froz 0
    by_cases hN : pre.length = N
    · have htk : (pre.take N).length = N := by rw [List.length_take]; omega
      have htk2 : (pre ++ [x]).take N = pre.take N := by rw [List.take_append_of_le_length (by omega)]
      have hI9 : EqI w g gn N #[.int .i64 kd, .slice u1 u2 u3, .slice u4 u5 u6] #[.int .i64 kd', .slice z1 z2 z3, .slice z4 z5 z6] ((pre ++ [x]).take N) W := by rw [htk2]; exact ⟨⟨_, hg1, hrp⟩, hn1, ha1, hb1, hbw⟩
      have hle : N ≤ (pre ++ [x]).length := by simp; omega
      rw [htk] at g0
      clear hrb hne hrp hC9 hc9 htk htk2 hN hi2 hg1
      gi_wp2
      exact ⟨kf_bel (Below.refl _ _), hI9, hle, rfl⟩
    · have htk : pre.take N = pre := List.take_of_length_le hi2
      have htk2 : (pre ++ [x]).take N = pre ++ [x] := List.take_of_length_le (by simp; omega)
      rw [htk] at g0 hrp hC9 hrb hg1 hc9 hne
      have hlN : ((pre.length : Int) == N) = false := by simp; omega
      have hl2 : pre.length + 1 < 100000000 := by have := HN2.out; omega
      have HG1 := Lib.hid hg1
      have HRP := Lib.hid hrp
      have HN1 := Lib.hid hn1
      have HA1 := Lib.hid ha1
      have HB1 := Lib.hid hb1
      have HBW := Lib.hid hbw
      have HNE := Lib.hid hne
      have HLP := Lib.hid hl2
      have HNN := Lib.hid hN
      have HIL := Lib.hid hi2
      have HT2 := Lib.hid htk2
      have hwg : Hid (w.heap.size ≤ g) := Lib.hid hrow.1
      clear hrb hne hrp hC9 hc9 htk htk2 hN hi2 hg1 hn1 ha1 hb1 hbw hl2 hqb
      gi_wp2_with (gi_at_builtin; refine appPt_in (w0 := w) (.tmp 34) (.tmp 36) rfl rfl (.slice A9 pre.length c9) pre x rfl rfl HRP.out HBW.out HLP.out ?_; intro v1 w1 HR1 HB2 HGR HAT; obtain ⟨A8, c8, hv8, -, -⟩ := HR1.out.reads; obtain ⟨n8, hn8⟩ : ∃ n, (pre ++ [x]).length = n := ⟨_, rfl⟩; rw [hn8] at hv8; clear hn8; subst hv8; have b9 := (show Blk w1 g #[.slice A9 pre.length c9] 22 from (HGR.out.block g (Blk.lt HG1.out) HNE.out).trans HG1.out); have f9 := b9.froz 0; have g9 : w1.cell? ⟨g, 0, none⟩ = some (.slice A9 pre.length c9) := Blk.cell b9 0 rfl; clear b9)
      refine ⟨kf_set ((KeepsOthers.of_grownBy HGR.out HRP.out.own_cells).from _) _ _, Kr.app (xs := pre) HG1.out HR1.out HGR.out HAT.out HNE.out, ?_, ?_⟩
      · rw [HT2.out]
        exact EqI.app hwg.out hgn.out HG1.out HN1.out HA1.out HB1.out HRP.out HR1.out HB2.out HGR.out
      · have := HNN.out; have := HIL.out; simp; omega
  case done =>
    clear hs5 hC5 hI5
    rintro D9 ys W hD rfl ⟨hI, hle⟩ hK
    exact TAIL D9 W hD hI hK
  case stop =>
    clear hs5 hC5 hI5
    rintro D9 c pre W hD ⟨t9, ht9⟩ ⟨hI, hle, rfl⟩ hK
    gi_wp2
    refine TAIL D9 W hD ?_ hK
    rw [← ht9, List.take_append_of_le_length hle]
    exact hI

end Go.Proofs.YtfknhpgelleenaaDoor.K
