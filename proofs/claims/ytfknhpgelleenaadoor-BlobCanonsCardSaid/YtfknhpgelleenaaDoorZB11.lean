/- What a claim leans on, part 11, cut by a program out of the texts WShape3. -/
import Derived.Handy
import Derived.Test.YtfknhpgelleenaaDoorZB4
import Derived.Test.YtfknhpgelleenaaDoorZB9
import Derived.Test.YtfknhpgelleenaaDoorZB10
section
namespace Go.Proofs.YtfknhpgelleenaaDoor.K
open Go Go.RowKit Go.Proofs.YtfknhpgelleenaaDoorW.PrintWords Go.Proofs.YtfknhpgelleenaaDoorW.PrintLast Go.Proofs.YtfknhpgelleenaaDoorW.PrintMore
set_option linter.unusedVariables false
set_option linter.unusedSimpArgs false
open Go.Shelf
attribute [local go_sem] Oper.semAt_some
open Go.Proofs.YtfknhpgelleenaaDoor.MBox (Bx I64)
theorem Blk.putB {W : World} {g j t : Nat} {cs : Array Value} (h : Blk W g cs t) (hj : g ≠ j) (o : Obj) : Blk (W.putObj j o) g cs t := (World.putObj_heap_other hj).trans h
theorem below_putB {B : Nat} {a w : World} (h : Below B a w) {j : Nat} (hj : B ≤ j) (o : Obj) : Below B a (w.putObj j o) :=
  ⟨h.os, h.tape, h.output, by simpa using h.size, fun i hi => by
    rw [World.putObj_heap_other (by omega)]; exact h.block i hi⟩
/-- The box around points, one after another. -/
def boxOf (l : List (Int × Int)) : Bx := l.foldl (fun b p => MBox.union b ⟨false, p.1, p.2, p.1, p.2⟩) MBox.noneB
theorem boxOf_snoc (l : List (Int × Int)) (p : Int × Int) : boxOf (l ++ [p]) = MBox.union (boxOf l) ⟨false, p.1, p.2, p.1, p.2⟩ := by simp [boxOf]
set_option maxHeartbeats 2000000 in
set_option maxRecDepth 100000 in
theorem boxOf_calls (w : World) (c : Value × Value × Value) (d : Nat) (out : List (Int × Int)) (hs : ∀ k, w.heap.size ≤ k → IsSh k w d c out) :
    Calls Tryd.prog 64 #[.agg #[c.1, c.2.1, c.2.2]] w fun e w' => e = .returned (.agg #[.bool (boxOf out).no, .int .i64 (boxOf out).lx, .int .i64 (boxOf out).ly, .int .i64 (boxOf out).hx, .int .i64 (boxOf out).hy]) ∧ Bel w w' := by
  obtain ⟨kd, e1, e2, e3, e4, e5, e6, rfl⟩ := (hs _ (Nat.le_refl _)).forms
  dsimp only
  refine (callsIn_wide (n := 5)).1 ?_
  refine callsIn_of_wp_marks Tryd.func64 rfl trivial ?_ rfl
  simp only [Tryd.ntmps64, List.size_toArray, List.length_cons, List.length_nil, Nat.reduceAdd, Nat.reduceSub, Array.replicate_succ, Array.replicate_zero, List.push_toArray, List.append_toArray, List.nil_append, List.cons_append]
  have A := (Blk.new w #[.int .i64 kd, .slice e1 e2 e3, .slice e4 e5 e6] 25).alloc (.cells #[.bool false, .int .i64 0, .int .i64 0, .int .i64 0, .int .i64 0] 67)
  have R := Blk.new_at (W := w.alloc (.cells #[.int .i64 kd, .slice e1 e2 e3, .slice e4 e5 e6] 25)) (g := w.heap.size + 1) (by simp) #[.bool false, .int .i64 0, .int .i64 0, .int .i64 0, .int .i64 0] 67
  have HB : Hid (Below w.heap.size w ((w.alloc (.cells #[.int .i64 kd, .slice e1 e2 e3, .slice e4 e5 e6] 25)).alloc (.cells #[.bool false, .int .i64 0, .int .i64 0, .int .i64 0, .int .i64 0] 67))) := Lib.hid (by repeat (first | exact Below.refl _ _ | refine Below.alloc ?_ (by simp <;> omega) _))
  gi_upto_region 1 with (fail)
  obtain ⟨W, hW⟩ : ∃ W, (w.alloc (.cells #[.int .i64 kd, .slice e1 e2 e3, .slice e4 e5 e6] 25)).alloc (.cells #[.bool false, .int .i64 0, .int .i64 0, .int .i64 0, .int .i64 0] 67) = W := ⟨_, rfl⟩
  rw [hW] at A R HB ⊢
  clear hW
  gi_upto_region 2 with ((try refine ⟨trivial, ?_⟩); gi_at_call 78; refine (callsIn_wide.2 (none_calls _)).mono ?_; rintro e w1 ⟨rfl, hb1⟩)
  have A1 := Blk.bel A hb1
  have R1 := Blk.bel R hb1
  have HB1 := Lib.hid (bthen HB.out hb1)
  have S := Blk.new w1 #[.bool MBox.noneB.no, .int .i64 MBox.noneB.lx, .int .i64 MBox.noneB.ly, .int .i64 MBox.noneB.hx, .int .i64 MBox.noneB.hy] 67
  have A2 := Blk.alloc A1 (.cells #[.bool MBox.noneB.no, .int .i64 MBox.noneB.lx, .int .i64 MBox.noneB.ly, .int .i64 MBox.noneB.hx, .int .i64 MBox.noneB.hy] 67)
  have R2 := Blk.alloc R1 (.cells #[.bool MBox.noneB.no, .int .i64 MBox.noneB.lx, .int .i64 MBox.noneB.ly, .int .i64 MBox.noneB.hx, .int .i64 MBox.noneB.hy] 67)
  have HB2 := Lib.hid (HB1.out.alloc HB1.out.size (.cells #[.bool MBox.noneB.no, .int .i64 MBox.noneB.lx, .int .i64 MBox.noneB.ly, .int .i64 MBox.noneB.hx, .int .i64 MBox.noneB.hy] 67))
  obtain ⟨W2, hW⟩ : ∃ W, w1.alloc (.cells #[.bool MBox.noneB.no, .int .i64 MBox.noneB.lx, .int .i64 MBox.noneB.ly, .int .i64 MBox.noneB.hx, .int .i64 MBox.noneB.hy] 67) = W := ⟨_, rfl⟩
  rw [hW] at A2 R2 HB2 S ⊢
  have hg0 := Blk.lt R1
  have hgs := Blk.lt S
  obtain ⟨g, hg⟩ : ∃ g, w1.heap.size = g := ⟨_, rfl⟩
  rw [hg] at S hg0 hgs ⊢
  clear hW hg A1 R1 HB1 A R HB hb1
  obtain ⟨a0, a1, a2⟩ := Blk.cells3 A2
  gi_wp2_with ((try refine ⟨trivial, ?_⟩); gi_at_call 28; refine (All_in Fence.wide _ trivial rfl _ _ _ _).mono ?_; rintro e w' ⟨rfl, rfl⟩)
  have A3 := Blk.alloc A2 (.cells #[.int .i64 kd, .slice e1 e2 e3, .slice e4 e5 e6] 25)
  have R3 := Blk.alloc R2 (.cells #[.int .i64 kd, .slice e1 e2 e3, .slice e4 e5 e6] 25)
  have S3 := Blk.alloc S (.cells #[.int .i64 kd, .slice e1 e2 e3, .slice e4 e5 e6] 25)
  have C3 := Blk.new W2 #[.int .i64 kd, .slice e1 e2 e3, .slice e4 e5 e6] 25
  have HB3 := Lib.hid (HB2.out.alloc HB2.out.size (.cells #[.int .i64 kd, .slice e1 e2 e3, .slice e4 e5 e6] 25))
  obtain ⟨W3, hW⟩ : ∃ W, W2.alloc (.cells #[.int .i64 kd, .slice e1 e2 e3, .slice e4 e5 e6] 25) = W := ⟨_, rfl⟩
  rw [hW] at A3 R3 S3 C3 HB3 ⊢
  have hB2 := HB2.out.size
  obtain ⟨B, hBB⟩ : ∃ b, W2.heap.size = b := ⟨_, rfl⟩
  rw [hBB] at C3 hgs hB2 ⊢
  clear hW hBB A2 R2 S HB2 a0 a1 a2
  have hgk : g < W3.heap.size := Blk.lt S3
  have hs3 : IsSh g W3 d (.int .i64 kd, .slice e1 e2 e3, .slice e4 e5 e6) out := IsSh.kx ⟨HB3.out.size, fun j _ cs t r hc => (HB3.out.block j (Array.getElem?_eq_some_iff.1 hc).1).trans hc⟩ d (hs g (by omega))
  refine wpIn_rangeFunc_ownH (F := Fence.wide) rfl (by omega) (gf := 56) (lb := #[.pointer (some ⟨B, 0, none⟩)]) rfl trivial (enters_of Tryd.func56 (by kernel_rfl) rfl)
    (seq_stops Fence.wide rfl 4 trivial trivial rfl B g d _ out W3 C3 hgk hs3) Kx.trans (fun W l o o' _ h ho _ => Kx.put W l o o' h ho) (Below.refl _ _) (fun _ => rfl)
    (fun pre W => (Blk W g #[.bool (boxOf pre).no, .int .i64 (boxOf pre).lx, .int .i64 (boxOf pre).ly, .int .i64 (boxOf pre).hx, .int .i64 (boxOf pre).hy] 67 ∧ Blk W (w.heap.size + 1) #[.bool false, .int .i64 0, .int .i64 0, .int .i64 0, .int .i64 0] 67) ∧ Below w.heap.size w W)
    (fun _ _ _ => False)
    (OwnFrom.and (OwnFrom.and (Own.from (blk_own _) _) (Own.from (blk_own _) _)) (ownFrom_below (Nat.le_refl _) (HB3.out.size)))
    (fun _ _ _ _ _ hs _ _ => hs)
    ⟨⟨S3, R3⟩, HB3.out⟩
    (fun x a' W => ∃ q, g < q ∧ Blk W q #[.int .i64 x.1, .int .i64 x.2] 41 ∧ a' = { tmps := #[.agg #[.int .i64 kd, .slice e1 e2 e3, .slice e4 e5 e6], .pointer (some ⟨w.heap.size, 0, none⟩), .pointer (some ⟨w.heap.size + 1, 0, none⟩), .pointer (some ⟨g, 0, none⟩), .pointer (some ⟨q, 0, none⟩), .agg #[.bool MBox.noneB.no, .int .i64 MBox.noneB.lx, .int .i64 MBox.noneB.ly, .int .i64 MBox.noneB.hx, .int .i64 MBox.noneB.hy], .agg #[.int .i64 kd, .slice e1 e2 e3, .slice e4 e5 e6], .func (.func 56) #[] #[.pointer (some ⟨B, 0, none⟩)], .agg #[.int .i64 x.1, .int .i64 x.2], undef, undef, undef, undef, undef, undef], defers := [] })
    (fun x a' s X Y row hx hg hr => by
      obtain ⟨q, h1, h2, h3⟩ := hx
      exact ⟨q, h1, (Own.from (blk_own (fun _ : Unit => #[.int .i64 x.1, .int .i64 x.2])) _) () X Y row h2 hg hr, h3⟩) ?assign ?body ?done ?stop
  case assign =>
    rintro l pre x W K ⟨⟨hi1, hi2⟩, hi3⟩ hK
    have hq := Blk.lt hi1
    gi_wp2
    exact hK _ _ ((KeepsOthers.alloc _ _).from _) (Kx.alloc _ _) ⟨⟨Blk.alloc hi1 _, Blk.alloc hi2 _⟩, hi3.alloc hi3.size _⟩ ⟨W.heap.size, hq, Blk.new W _ _, rfl⟩
  case body =>
    rintro l pre x a' W hl hr ⟨⟨hi1, hi2⟩, hi3⟩ ⟨q, hq, hqb, rfl⟩ hlt
    obtain ⟨c0, c1, c2, c3, c4⟩ := Blk.cells5 hi1
    have p0 : W.cell? ⟨q, 0, none⟩ = some (.int .i64 x.1) := Blk.cell hqb 0 rfl
    have p1 : W.cell? ⟨q, 1, none⟩ = some (.int .i64 x.2) := Blk.cell hqb 1 rfl
    have HU := Lib.hid (fun w => union_calls (boxOf pre) ⟨false, x.1, x.2, x.1, x.2⟩ w)
    rw [← boxOf_snoc] at HU
    dsimp only at HU
    obtain ⟨b0, hb0⟩ : ∃ b, boxOf pre = b := ⟨_, rfl⟩
    obtain ⟨b9, hb9⟩ : ∃ b, boxOf (pre ++ [x]) = b := ⟨_, rfl⟩
    rw [hb0] at c0 c1 c2 c3 c4 HU hi1
    rw [hb9] at HU
    gi_wp2_with ((try refine ⟨trivial, ?_⟩); gi_at_call 87; refine (CallsIn.inRound l (callsIn_wide.2 (HU.out _))).mono ?_; rintro e w' ⟨rfl, hb⟩; have S9 := Blk.bel hi1 hb; have R9 := Blk.bel hi2 hb; obtain ⟨c0, c1, c2, c3, c4⟩ := Blk.cells5 S9; have f0 := S9.froz 0; have f1 := S9.froz 1; have f2 := S9.froz 2; have f3 := S9.froz 3; have f4 := S9.froz 4)
    refine ⟨kf_set (kf_set (kf_set (kf_set (kf_set (kf_bel hb) _ _) _ _) _ _) _ _) _ _, kx_set (kx_set (kx_set (kx_set (kx_set (Kx.bel hb) 0 _) 1 _) 2 _) 3 _) 4 _, ⟨?_, ?_⟩, below_set5 (bthen hi3 hb) (by omega) _ _ _ _ _⟩
    · rw [hb9]; exact Blk.set5 S9
    · exact ((((R9.set_ne (by omega) _).set_ne (by omega) _).set_ne (by omega) _).set_ne (by omega) _).set_ne (by omega) _
  case done =>
    rintro D ys W hD rfl ⟨⟨hi1, hi2⟩, hi3⟩ hK
    obtain ⟨c0, c1, c2, c3, c4⟩ := Blk.cells5 hi1
    obtain ⟨r0, r1, r2, r3, r4⟩ := Blk.cells5 hi2
    have f0 := hi2.froz 0; have f1 := hi2.froz 1; have f2 := hi2.froz 2; have f3 := hi2.froz 3; have f4 := hi2.froz 4
    have R9 := Blk.set5 hi2 (x' := .bool (boxOf ys).no) (y' := .int .i64 (boxOf ys).lx) (z' := .int .i64 (boxOf ys).ly) (p' := .int .i64 (boxOf ys).hx) (q' := .int .i64 (boxOf ys).hy)
    have B9 := below_set5 hi3 (g := w.heap.size + 1) (by omega) (.bool (boxOf ys).no) (.int .i64 (boxOf ys).lx) (.int .i64 (boxOf ys).ly) (.int .i64 (boxOf ys).hx) (.int .i64 (boxOf ys).hy)
    have K9 := (kf_set (kf_set (kf_set (kf_set (kf_set (KeepsFrom.refl 0 W) ⟨w.heap.size + 1, 0, none⟩ (.bool (boxOf ys).no)) ⟨w.heap.size + 1, 1, none⟩ (.int .i64 (boxOf ys).lx)) ⟨w.heap.size + 1, 2, none⟩ (.int .i64 (boxOf ys).ly)) ⟨w.heap.size + 1, 3, none⟩ (.int .i64 (boxOf ys).hx)) ⟨w.heap.size + 1, 4, none⟩ (.int .i64 (boxOf ys).hy)).same D _ (Nat.zero_le _) hK rfl
    gi_wp2
    obtain ⟨W9, hW⟩ : ∃ X, ((((W.setCell ⟨w.heap.size + 1, 0, none⟩ (.bool (boxOf ys).no)).setCell ⟨w.heap.size + 1, 1, none⟩ (.int .i64 (boxOf ys).lx)).setCell ⟨w.heap.size + 1, 2, none⟩ (.int .i64 (boxOf ys).ly)).setCell ⟨w.heap.size + 1, 3, none⟩ (.int .i64 (boxOf ys).hx)).setCell ⟨w.heap.size + 1, 4, none⟩ (.int .i64 (boxOf ys).hy) = X := ⟨_, rfl⟩
    rw [hW] at R9 B9 K9 ⊢
    clear hW c0 c1 c2 c3 c4 r0 r1 r2 r3 r4 f0 f1 f2 f3 f4 hi1 hi2 hi3 hK
    refine ⟨by simp, .inl ⟨_, _, rfl, run_takeDeferred K9, ?_⟩⟩
    have R10 := Blk.putB R9 (j := D) (by omega) (.deferred none)
    obtain ⟨q0, q1, q2, q3, q4⟩ := Blk.cells5 R10
    refine ⟨.agg #[.bool (boxOf ys).no, .int .i64 (boxOf ys).lx, .int .i64 (boxOf ys).ly, .int .i64 (boxOf ys).hx, .int .i64 (boxOf ys).hy], ?_, rfl, below_putB B9 (by omega) _⟩
    simp [results, Tryd.results64, go_sem, q0, q1, q2, q3, q4]
  case stop =>
    rintro D c pre W _ _ h _
    exact h.elim
end Go.Proofs.YtfknhpgelleenaaDoor.K
end
