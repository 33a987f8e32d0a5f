/- What a claim leans on, part 18, cut by a program out of the texts WCheck. -/
import Derived.Handy
import Derived.Test.YtfknhpgelleenaaDoorZB4
import Derived.Test.YtfknhpgelleenaaDoorZB9
import Derived.Test.YtfknhpgelleenaaDoorZB16
import Derived.Test.YtfknhpgelleenaaDoorZB17
section
namespace Go.Proofs.YtfknhpgelleenaaDoor.K
open Go Go.RowKit Go.Proofs.YtfknhpgelleenaaDoorW.PrintWords Go.Proofs.YtfknhpgelleenaaDoorW.PrintLast Go.Proofs.YtfknhpgelleenaaDoorW.PrintMore
set_option linter.unusedVariables false
set_option linter.unusedSimpArgs false
open Go.Shelf
attribute [local go_sem] Oper.semAt_some
open Go.Proofs.YtfknhpgelleenaaDoor.MShape (Sh Cn isKind right flats)
theorem below_put9 {B : Nat} {a w : World} (h : Below B a w) {j : Nat} (hj : B ≤ j) (o : Obj) : Below B a (w.putObj j o) :=
  ⟨h.os, h.tape, h.output, by simpa using h.size, fun i hi => by
    rw [World.putObj_heap_other (by omega)]; exact h.block i hi⟩
theorem Blk.put9 {W : World} {g j t : Nat} {cs : Array Value} (h : Blk W g cs t) (hj : g ≠ j) (o : Obj) : Blk (W.putObj j o) g cs t := (World.putObj_heap_other hj).trans h
set_option maxHeartbeats 4000000 in
set_option maxRecDepth 100000 in
theorem check1_calls (D : Nat) (s : Sh) (c : Value × Value × Value) (w : World) (B : Nat) (hB : B ≤ w.heap.size) (hs : ShB B w D c s) (P Q E : Int) (hcn : MShape.count s = ⟨P, Q, E⟩) (h1 : 16 < E) :
    Calls Tryd.prog 21 #[.agg #[c.1, c.2.1, c.2.2]] w fun e w' => e = .returned (.int .i64 10) ∧ Bel w w' := by
  have HC := Lib.hid (count_calls D s)
  have HS := Lib.hid hs
  rw [hcn] at HC
  clear hcn
  obtain ⟨kd, e1, e2, e3, e4, e5, e6, rfl⟩ := hs.forms
  dsimp only
  clear hs
  have S := (Blk.new w #[.int .i64 kd, .slice e1 e2 e3, .slice e4 e5 e6] 25).alloc (.cells #[.int .i64 0] 29)
  have R := Blk.new_at (W := w.alloc (.cells #[.int .i64 kd, .slice e1 e2 e3, .slice e4 e5 e6] 25)) (g := w.heap.size + 1) (by simp) #[.int .i64 0] 29
  have HB : Hid (Below w.heap.size w ((w.alloc (.cells #[.int .i64 kd, .slice e1 e2 e3, .slice e4 e5 e6] 25)).alloc (.cells #[.int .i64 0] 29))) := Lib.hid (by repeat (first | exact Below.refl _ _ | refine Below.alloc ?_ (by simp <;> omega) _))
  have HC : Hid (∀ W, B ≤ W.heap.size → ShB B W D (.int .i64 kd, .slice e1 e2 e3, .slice e4 e5 e6) s → Calls Tryd.prog 53 #[.agg #[.int .i64 kd, .slice e1 e2 e3, .slice e4 e5 e6]] W fun e w' => e = .returned (.agg #[.int .i64 P, .int .i64 Q, .int .i64 E]) ∧ Bel W w' ∧ cnOk ⟨P, Q, E⟩) := Lib.hid (fun W h1 h2 => by have h := HC.out (.int .i64 kd, .slice e1 e2 e3, .slice e4 e5 e6) W B h1 h2; exact h)
  refine (callsIn_wide (n := 5)).1 ?_
  refine callsIn_of_wp_marks Tryd.func21 rfl trivial ?_ rfl
  simp only [Tryd.ntmps21, List.size_toArray, List.length_cons, List.length_nil, Nat.reduceAdd, Nat.reduceSub, Array.replicate_succ, Array.replicate_zero, List.push_toArray, List.append_toArray, List.nil_append, List.cons_append]
  gi_upto_region 1 with (fail)
  obtain ⟨W, hW⟩ : ∃ W, (w.alloc (.cells #[.int .i64 kd, .slice e1 e2 e3, .slice e4 e5 e6] 25)).alloc (.cells #[.int .i64 0] 29) = W := ⟨_, rfl⟩
  rw [hW] at S R HB ⊢
  clear hW
  obtain ⟨s0, s1, s2⟩ := Blk.cells3 S
  have HCALL := Lib.hid (HC.out W (by have := HB.out.size; omega) (HS.out.keep (KeepB.bel HB.out)))
  gi_upto_region 2 with ((try refine ⟨trivial, ?_⟩); gi_at_call 53; refine (callsIn_wide.2 (HCALL.out)).mono ?_; rintro e w1 ⟨rfl, hb1, -⟩)
  have C := Blk.new w1 #[.int .i64 P, .int .i64 Q, .int .i64 E] 79
  have S1 := Blk.alloc (Blk.bel S hb1) (.cells #[.int .i64 P, .int .i64 Q, .int .i64 E] 79)
  have R1 := Blk.alloc (Blk.bel R hb1) (.cells #[.int .i64 P, .int .i64 Q, .int .i64 E] 79)
  have HB1 := Lib.hid ((bthen HB.out hb1).alloc (bthen HB.out hb1).size (.cells #[.int .i64 P, .int .i64 Q, .int .i64 E] 79))
  obtain ⟨W2, hW⟩ : ∃ W, w1.alloc (.cells #[.int .i64 P, .int .i64 Q, .int .i64 E] 79) = W := ⟨_, rfl⟩
  rw [hW] at C S1 R1 HB1 ⊢
  obtain ⟨gc, hg⟩ : ∃ g, w1.heap.size = g := ⟨_, rfl⟩
  rw [hg] at C ⊢
  clear hW hg hb1 s0 s1 s2 S R HB HCALL
  obtain ⟨s0, s1, s2⟩ := Blk.cells3 S1
  obtain ⟨c0, c1, c2⟩ := Blk.cells3 C
  have r0 : W2.cell? ⟨w.heap.size + 1, 0, none⟩ = some (.int .i64 0) := Blk.cell R1 0 rfl
  have f0 := R1.froz 0
  gi_wp2
  have R2 : Blk (W2.setCell ⟨w.heap.size + 1, 0, none⟩ (.int .i64 10)) (w.heap.size + 1) #[.int .i64 10] 29 := R1.set 0 _
  have q0 : (W2.setCell ⟨w.heap.size + 1, 0, none⟩ (.int .i64 10)).cell? ⟨w.heap.size + 1, 0, none⟩ = some (.int .i64 10) := Blk.cell R2 0 rfl
  refine ⟨.int .i64 10, ?_, rfl, below_set HB1.out (by omega) _⟩
  simp [results, Tryd.results21, go_sem, q0]
theorem ShB.kind {B : Nat} {W : World} {D : Nat} {c : Value × Value × Value} {s : Sh} (h : ShB B W D c s) : c.1 = .int .i64 s.kind := by
  cases D with
  | zero => exact h.elim
  | succ D => obtain ⟨k, p, q⟩ := s; exact h.1
set_option maxHeartbeats 4000000 in
set_option maxRecDepth 100000 in
theorem check2_calls (D : Nat) (s : Sh) (c : Value × Value × Value) (w : World) (B : Nat) (hB : B ≤ w.heap.size) (hw1 : 1 ≤ w.heap.size) (hs : ShB B w D c s) (hF : FormsAt w) (P Q E : Int) (hcn : MShape.count s = ⟨P, Q, E⟩) (h1 : ¬ 16 < E) (h2 : 4000 < P) :
    Calls Tryd.prog 21 #[.agg #[c.1, c.2.1, c.2.2]] w fun e w' => e = .returned (.int .i64 12) ∧ Bel w w' := by
  have HC := Lib.hid (count_calls D s)
  have HS := Lib.hid hs
  rw [hcn] at HC
  clear hcn
  have hkk := ShB.kind hs
  obtain ⟨kd, e1, e2, e3, e4, e5, e6, rfl⟩ := hs.forms
  dsimp only at hkk ⊢
  have HRT := Lib.hid (fun W h1 h2 h3 h4 => right_calls D s (.int .i64 kd, .slice e1 e2 e3, .slice e4 e5 e6) W B h1 h2 h3 h4)
  clear hs
  have S := (Blk.new w #[.int .i64 kd, .slice e1 e2 e3, .slice e4 e5 e6] 25).alloc (.cells #[.int .i64 0] 29)
  have R := Blk.new_at (W := w.alloc (.cells #[.int .i64 kd, .slice e1 e2 e3, .slice e4 e5 e6] 25)) (g := w.heap.size + 1) (by simp) #[.int .i64 0] 29
  have HB : Hid (Below w.heap.size w ((w.alloc (.cells #[.int .i64 kd, .slice e1 e2 e3, .slice e4 e5 e6] 25)).alloc (.cells #[.int .i64 0] 29))) := Lib.hid (by repeat (first | exact Below.refl _ _ | refine Below.alloc ?_ (by simp <;> omega) _))
  have HC : Hid (∀ W, B ≤ W.heap.size → ShB B W D (.int .i64 kd, .slice e1 e2 e3, .slice e4 e5 e6) s → Calls Tryd.prog 53 #[.agg #[.int .i64 kd, .slice e1 e2 e3, .slice e4 e5 e6]] W fun e w' => e = .returned (.agg #[.int .i64 P, .int .i64 Q, .int .i64 E]) ∧ Bel W w' ∧ cnOk ⟨P, Q, E⟩) := Lib.hid (fun W h1 h2 => by have h := HC.out (.int .i64 kd, .slice e1 e2 e3, .slice e4 e5 e6) W B h1 h2; exact h)
  clear hkk hF HRT
  refine (callsIn_wide (n := 5)).1 ?_
  refine callsIn_of_wp_marks Tryd.func21 rfl trivial ?_ rfl
  simp only [Tryd.ntmps21, List.size_toArray, List.length_cons, List.length_nil, Nat.reduceAdd, Nat.reduceSub, Array.replicate_succ, Array.replicate_zero, List.push_toArray, List.append_toArray, List.nil_append, List.cons_append]
  gi_upto_region 1 with (fail)
  obtain ⟨W, hW⟩ : ∃ W, (w.alloc (.cells #[.int .i64 kd, .slice e1 e2 e3, .slice e4 e5 e6] 25)).alloc (.cells #[.int .i64 0] 29) = W := ⟨_, rfl⟩
  rw [hW] at S R HB ⊢
  clear hW
  obtain ⟨s0, s1, s2⟩ := Blk.cells3 S
  have HCALL := Lib.hid (HC.out W (by have := HB.out.size; omega) (HS.out.keep (KeepB.bel HB.out)))
  gi_upto_region 2 with ((try refine ⟨trivial, ?_⟩); gi_at_call 53; refine (callsIn_wide.2 (HCALL.out)).mono ?_; rintro e w1 ⟨rfl, hb1, -⟩)
  have C := Blk.new w1 #[.int .i64 P, .int .i64 Q, .int .i64 E] 79
  have S1 := Blk.alloc (Blk.bel S hb1) (.cells #[.int .i64 P, .int .i64 Q, .int .i64 E] 79)
  have R1 := Blk.alloc (Blk.bel R hb1) (.cells #[.int .i64 P, .int .i64 Q, .int .i64 E] 79)
  have HB1 := Lib.hid ((bthen HB.out hb1).alloc (bthen HB.out hb1).size (.cells #[.int .i64 P, .int .i64 Q, .int .i64 E] 79))
  obtain ⟨W2, hW⟩ : ∃ W, w1.alloc (.cells #[.int .i64 P, .int .i64 Q, .int .i64 E] 79) = W := ⟨_, rfl⟩
  rw [hW] at C S1 R1 HB1 ⊢
  obtain ⟨gc, hg⟩ : ∃ g, w1.heap.size = g := ⟨_, rfl⟩
  rw [hg] at C ⊢
  clear hW hg hb1 s0 s1 s2 S R HB HCALL
  obtain ⟨s0, s1, s2⟩ := Blk.cells3 S1
  obtain ⟨c0, c1, c2⟩ := Blk.cells3 C
  have r0 : W2.cell? ⟨w.heap.size + 1, 0, none⟩ = some (.int .i64 0) := Blk.cell R1 0 rfl
  have f0 := R1.froz 0
  gi_wp2
  have R2 : Blk (W2.setCell ⟨w.heap.size + 1, 0, none⟩ (.int .i64 12)) (w.heap.size + 1) #[.int .i64 12] 29 := R1.set 0 _
  have q0 : (W2.setCell ⟨w.heap.size + 1, 0, none⟩ (.int .i64 12)).cell? ⟨w.heap.size + 1, 0, none⟩ = some (.int .i64 12) := Blk.cell R2 0 rfl
  refine ⟨.int .i64 12, ?_, rfl, below_set HB1.out (by omega) _⟩
  simp [results, Tryd.results21, go_sem, q0]
set_option maxHeartbeats 4000000 in
set_option maxRecDepth 100000 in
theorem check3_calls (D : Nat) (s : Sh) (c : Value × Value × Value) (w : World) (B : Nat) (hB : B ≤ w.heap.size) (hw1 : 1 ≤ w.heap.size) (hs : ShB B w D c s) (hF : FormsAt w) (P Q E : Int) (hcn : MShape.count s = ⟨P, Q, E⟩) (h1 : ¬ 16 < E) (h2 : ¬ 4000 < P) (h3 : 1000 < Q) :
    Calls Tryd.prog 21 #[.agg #[c.1, c.2.1, c.2.2]] w fun e w' => e = .returned (.int .i64 12) ∧ Bel w w' := by
  have HC := Lib.hid (count_calls D s)
  have HS := Lib.hid hs
  rw [hcn] at HC
  clear hcn
  have hkk := ShB.kind hs
  obtain ⟨kd, e1, e2, e3, e4, e5, e6, rfl⟩ := hs.forms
  dsimp only at hkk ⊢
  have HRT := Lib.hid (fun W h1 h2 h3 h4 => right_calls D s (.int .i64 kd, .slice e1 e2 e3, .slice e4 e5 e6) W B h1 h2 h3 h4)
  clear hs
  have S := (Blk.new w #[.int .i64 kd, .slice e1 e2 e3, .slice e4 e5 e6] 25).alloc (.cells #[.int .i64 0] 29)
  have R := Blk.new_at (W := w.alloc (.cells #[.int .i64 kd, .slice e1 e2 e3, .slice e4 e5 e6] 25)) (g := w.heap.size + 1) (by simp) #[.int .i64 0] 29
  have HB : Hid (Below w.heap.size w ((w.alloc (.cells #[.int .i64 kd, .slice e1 e2 e3, .slice e4 e5 e6] 25)).alloc (.cells #[.int .i64 0] 29))) := Lib.hid (by repeat (first | exact Below.refl _ _ | refine Below.alloc ?_ (by simp <;> omega) _))
  have HC : Hid (∀ W, B ≤ W.heap.size → ShB B W D (.int .i64 kd, .slice e1 e2 e3, .slice e4 e5 e6) s → Calls Tryd.prog 53 #[.agg #[.int .i64 kd, .slice e1 e2 e3, .slice e4 e5 e6]] W fun e w' => e = .returned (.agg #[.int .i64 P, .int .i64 Q, .int .i64 E]) ∧ Bel W w' ∧ cnOk ⟨P, Q, E⟩) := Lib.hid (fun W h1 h2 => by have h := HC.out (.int .i64 kd, .slice e1 e2 e3, .slice e4 e5 e6) W B h1 h2; exact h)
  clear hkk hF HRT
  refine (callsIn_wide (n := 5)).1 ?_
  refine callsIn_of_wp_marks Tryd.func21 rfl trivial ?_ rfl
  simp only [Tryd.ntmps21, List.size_toArray, List.length_cons, List.length_nil, Nat.reduceAdd, Nat.reduceSub, Array.replicate_succ, Array.replicate_zero, List.push_toArray, List.append_toArray, List.nil_append, List.cons_append]
  gi_upto_region 1 with (fail)
  obtain ⟨W, hW⟩ : ∃ W, (w.alloc (.cells #[.int .i64 kd, .slice e1 e2 e3, .slice e4 e5 e6] 25)).alloc (.cells #[.int .i64 0] 29) = W := ⟨_, rfl⟩
  rw [hW] at S R HB ⊢
  clear hW
  obtain ⟨s0, s1, s2⟩ := Blk.cells3 S
  have HCALL := Lib.hid (HC.out W (by have := HB.out.size; omega) (HS.out.keep (KeepB.bel HB.out)))
  gi_upto_region 2 with ((try refine ⟨trivial, ?_⟩); gi_at_call 53; refine (callsIn_wide.2 (HCALL.out)).mono ?_; rintro e w1 ⟨rfl, hb1, -⟩)
  have C := Blk.new w1 #[.int .i64 P, .int .i64 Q, .int .i64 E] 79
  have S1 := Blk.alloc (Blk.bel S hb1) (.cells #[.int .i64 P, .int .i64 Q, .int .i64 E] 79)
  have R1 := Blk.alloc (Blk.bel R hb1) (.cells #[.int .i64 P, .int .i64 Q, .int .i64 E] 79)
  have HB1 := Lib.hid ((bthen HB.out hb1).alloc (bthen HB.out hb1).size (.cells #[.int .i64 P, .int .i64 Q, .int .i64 E] 79))
  obtain ⟨W2, hW⟩ : ∃ W, w1.alloc (.cells #[.int .i64 P, .int .i64 Q, .int .i64 E] 79) = W := ⟨_, rfl⟩
  rw [hW] at C S1 R1 HB1 ⊢
  obtain ⟨gc, hg⟩ : ∃ g, w1.heap.size = g := ⟨_, rfl⟩
  rw [hg] at C ⊢
  clear hW hg hb1 s0 s1 s2 S R HB HCALL
  obtain ⟨s0, s1, s2⟩ := Blk.cells3 S1
  obtain ⟨c0, c1, c2⟩ := Blk.cells3 C
  have r0 : W2.cell? ⟨w.heap.size + 1, 0, none⟩ = some (.int .i64 0) := Blk.cell R1 0 rfl
  have f0 := R1.froz 0
  gi_wp2
  have R2 : Blk (W2.setCell ⟨w.heap.size + 1, 0, none⟩ (.int .i64 12)) (w.heap.size + 1) #[.int .i64 12] 29 := R1.set 0 _
  have q0 : (W2.setCell ⟨w.heap.size + 1, 0, none⟩ (.int .i64 12)).cell? ⟨w.heap.size + 1, 0, none⟩ = some (.int .i64 12) := Blk.cell R2 0 rfl
  refine ⟨.int .i64 12, ?_, rfl, below_set HB1.out (by omega) _⟩
  simp [results, Tryd.results21, go_sem, q0]
set_option maxHeartbeats 4000000 in
set_option maxRecDepth 100000 in
theorem check4_calls (D : Nat) (s : Sh) (c : Value × Value × Value) (w : World) (B : Nat) (hB : B ≤ w.heap.size) (hw1 : 1 ≤ w.heap.size) (hs : ShB B w D c s) (hF : FormsAt w) (P Q E : Int) (hcn : MShape.count s = ⟨P, Q, E⟩) (h1 : ¬ 16 < E) (h2 : ¬ 4000 < P) (h3 : ¬ 1000 < Q) (h4 : isKind s.kind = false) :
    Calls Tryd.prog 21 #[.agg #[c.1, c.2.1, c.2.2]] w fun e w' => e = .returned (.int .i64 9) ∧ Bel w w' := by
  have HC := Lib.hid (count_calls D s)
  have HS := Lib.hid hs
  rw [hcn] at HC
  clear hcn
  have hkk := ShB.kind hs
  obtain ⟨kd, e1, e2, e3, e4, e5, e6, rfl⟩ := hs.forms
  dsimp only at hkk ⊢
  have HRT := Lib.hid (fun W h1 h2 h3 h4 => right_calls D s (.int .i64 kd, .slice e1 e2 e3, .slice e4 e5 e6) W B h1 h2 h3 h4)
  clear hs
  have S := (Blk.new w #[.int .i64 kd, .slice e1 e2 e3, .slice e4 e5 e6] 25).alloc (.cells #[.int .i64 0] 29)
  have R := Blk.new_at (W := w.alloc (.cells #[.int .i64 kd, .slice e1 e2 e3, .slice e4 e5 e6] 25)) (g := w.heap.size + 1) (by simp) #[.int .i64 0] 29
  have HB : Hid (Below w.heap.size w ((w.alloc (.cells #[.int .i64 kd, .slice e1 e2 e3, .slice e4 e5 e6] 25)).alloc (.cells #[.int .i64 0] 29))) := Lib.hid (by repeat (first | exact Below.refl _ _ | refine Below.alloc ?_ (by simp <;> omega) _))
  have HC : Hid (∀ W, B ≤ W.heap.size → ShB B W D (.int .i64 kd, .slice e1 e2 e3, .slice e4 e5 e6) s → Calls Tryd.prog 53 #[.agg #[.int .i64 kd, .slice e1 e2 e3, .slice e4 e5 e6]] W fun e w' => e = .returned (.agg #[.int .i64 P, .int .i64 Q, .int .i64 E]) ∧ Bel W w' ∧ cnOk ⟨P, Q, E⟩) := Lib.hid (fun W h1 h2 => by have h := HC.out (.int .i64 kd, .slice e1 e2 e3, .slice e4 e5 e6) W B h1 h2; exact h)
  have hkd : kd = s.kind := by injection hkk
  have HIK := Lib.hid (fun w => isKind_calls kd w false (by rw [hkd]; exact h4))
  have HF := Lib.hid hF
  clear hkd hkk hF
  clear h4 HRT HF
  refine (callsIn_wide (n := 5)).1 ?_
  refine callsIn_of_wp_marks Tryd.func21 rfl trivial ?_ rfl
  simp only [Tryd.ntmps21, List.size_toArray, List.length_cons, List.length_nil, Nat.reduceAdd, Nat.reduceSub, Array.replicate_succ, Array.replicate_zero, List.push_toArray, List.append_toArray, List.nil_append, List.cons_append]
  gi_upto_region 1 with (fail)
  obtain ⟨W, hW⟩ : ∃ W, (w.alloc (.cells #[.int .i64 kd, .slice e1 e2 e3, .slice e4 e5 e6] 25)).alloc (.cells #[.int .i64 0] 29) = W := ⟨_, rfl⟩
  rw [hW] at S R HB ⊢
  clear hW
  obtain ⟨s0, s1, s2⟩ := Blk.cells3 S
  have HCALL := Lib.hid (HC.out W (by have := HB.out.size; omega) (HS.out.keep (KeepB.bel HB.out)))
  gi_upto_region 2 with ((try refine ⟨trivial, ?_⟩); gi_at_call 53; refine (callsIn_wide.2 (HCALL.out)).mono ?_; rintro e w1 ⟨rfl, hb1, -⟩)
  have C := Blk.new w1 #[.int .i64 P, .int .i64 Q, .int .i64 E] 79
  have S1 := Blk.alloc (Blk.bel S hb1) (.cells #[.int .i64 P, .int .i64 Q, .int .i64 E] 79)
  have R1 := Blk.alloc (Blk.bel R hb1) (.cells #[.int .i64 P, .int .i64 Q, .int .i64 E] 79)
  have HB1 := Lib.hid ((bthen HB.out hb1).alloc (bthen HB.out hb1).size (.cells #[.int .i64 P, .int .i64 Q, .int .i64 E] 79))
  obtain ⟨W2, hW⟩ : ∃ W, w1.alloc (.cells #[.int .i64 P, .int .i64 Q, .int .i64 E] 79) = W := ⟨_, rfl⟩
  rw [hW] at C S1 R1 HB1 ⊢
  obtain ⟨gc, hg⟩ : ∃ g, w1.heap.size = g := ⟨_, rfl⟩
  rw [hg] at C ⊢
  clear hW hg hb1 s0 s1 s2 S R HB HCALL
  obtain ⟨s0, s1, s2⟩ := Blk.cells3 S1
  obtain ⟨c0, c1, c2⟩ := Blk.cells3 C
  have r0 : W2.cell? ⟨w.heap.size + 1, 0, none⟩ = some (.int .i64 0) := Blk.cell R1 0 rfl
  have f0 := R1.froz 0
  gi_wp2_with ((try refine ⟨trivial, ?_⟩); (gi_at_call 54; refine (callsIn_wide.2 (HIK.out _)).mono ?_; rintro e w' ⟨rfl, rfl⟩))
  refine ⟨trivial, ?_⟩
  gi_wp2
  have R2 : Blk (W2.setCell ⟨w.heap.size + 1, 0, none⟩ (.int .i64 9)) (w.heap.size + 1) #[.int .i64 9] 29 := R1.set 0 _
  have q0 : (W2.setCell ⟨w.heap.size + 1, 0, none⟩ (.int .i64 9)).cell? ⟨w.heap.size + 1, 0, none⟩ = some (.int .i64 9) := Blk.cell R2 0 rfl
  refine ⟨.int .i64 9, ?_, rfl, below_set HB1.out (by omega) _⟩
  simp [results, Tryd.results21, go_sem, q0]
set_option maxHeartbeats 4000000 in
set_option maxRecDepth 100000 in
theorem check5_calls (D : Nat) (s : Sh) (c : Value × Value × Value) (w : World) (B : Nat) (hB : B ≤ w.heap.size) (hw1 : 1 ≤ w.heap.size) (hs : ShB B w D c s) (hF : FormsAt w) (P Q E : Int) (hcn : MShape.count s = ⟨P, Q, E⟩) (h1 : ¬ 16 < E) (h2 : ¬ 4000 < P) (h3 : ¬ 1000 < Q) (h4 : isKind s.kind = true) (h5 : right s = false) :
    Calls Tryd.prog 21 #[.agg #[c.1, c.2.1, c.2.2]] w fun e w' => e = .returned (.int .i64 9) ∧ Bel w w' := by
  have HC := Lib.hid (count_calls D s)
  have HS := Lib.hid hs
  rw [hcn] at HC
  clear hcn
  have hkk := ShB.kind hs
  obtain ⟨kd, e1, e2, e3, e4, e5, e6, rfl⟩ := hs.forms
  dsimp only at hkk ⊢
  have HRT := Lib.hid (fun W h1 h2 h3 h4 => right_calls D s (.int .i64 kd, .slice e1 e2 e3, .slice e4 e5 e6) W B h1 h2 h3 h4)
  clear hs
  have S := (Blk.new w #[.int .i64 kd, .slice e1 e2 e3, .slice e4 e5 e6] 25).alloc (.cells #[.int .i64 0] 29)
  have R := Blk.new_at (W := w.alloc (.cells #[.int .i64 kd, .slice e1 e2 e3, .slice e4 e5 e6] 25)) (g := w.heap.size + 1) (by simp) #[.int .i64 0] 29
  have HB : Hid (Below w.heap.size w ((w.alloc (.cells #[.int .i64 kd, .slice e1 e2 e3, .slice e4 e5 e6] 25)).alloc (.cells #[.int .i64 0] 29))) := Lib.hid (by repeat (first | exact Below.refl _ _ | refine Below.alloc ?_ (by simp <;> omega) _))
  have HC : Hid (∀ W, B ≤ W.heap.size → ShB B W D (.int .i64 kd, .slice e1 e2 e3, .slice e4 e5 e6) s → Calls Tryd.prog 53 #[.agg #[.int .i64 kd, .slice e1 e2 e3, .slice e4 e5 e6]] W fun e w' => e = .returned (.agg #[.int .i64 P, .int .i64 Q, .int .i64 E]) ∧ Bel W w' ∧ cnOk ⟨P, Q, E⟩) := Lib.hid (fun W h1 h2 => by have h := HC.out (.int .i64 kd, .slice e1 e2 e3, .slice e4 e5 e6) W B h1 h2; exact h)
  have hkd : kd = s.kind := by injection hkk
  have HIK := Lib.hid (fun w => isKind_calls kd w true (by rw [hkd]; exact h4))
  have HF := Lib.hid hF
  clear hkd hkk hF
  have H5 := Lib.hid h5
  clear h4 h5
  refine (callsIn_wide (n := 5)).1 ?_
  refine callsIn_of_wp_marks Tryd.func21 rfl trivial ?_ rfl
  simp only [Tryd.ntmps21, List.size_toArray, List.length_cons, List.length_nil, Nat.reduceAdd, Nat.reduceSub, Array.replicate_succ, Array.replicate_zero, List.push_toArray, List.append_toArray, List.nil_append, List.cons_append]
  gi_upto_region 1 with (fail)
  obtain ⟨W, hW⟩ : ∃ W, (w.alloc (.cells #[.int .i64 kd, .slice e1 e2 e3, .slice e4 e5 e6] 25)).alloc (.cells #[.int .i64 0] 29) = W := ⟨_, rfl⟩
  rw [hW] at S R HB ⊢
  clear hW
  obtain ⟨s0, s1, s2⟩ := Blk.cells3 S
  have HCALL := Lib.hid (HC.out W (by have := HB.out.size; omega) (HS.out.keep (KeepB.bel HB.out)))
  gi_upto_region 2 with ((try refine ⟨trivial, ?_⟩); gi_at_call 53; refine (callsIn_wide.2 (HCALL.out)).mono ?_; rintro e w1 ⟨rfl, hb1, -⟩)
  have C := Blk.new w1 #[.int .i64 P, .int .i64 Q, .int .i64 E] 79
  have S1 := Blk.alloc (Blk.bel S hb1) (.cells #[.int .i64 P, .int .i64 Q, .int .i64 E] 79)
  have R1 := Blk.alloc (Blk.bel R hb1) (.cells #[.int .i64 P, .int .i64 Q, .int .i64 E] 79)
  have HB1 := Lib.hid ((bthen HB.out hb1).alloc (bthen HB.out hb1).size (.cells #[.int .i64 P, .int .i64 Q, .int .i64 E] 79))
  obtain ⟨W2, hW⟩ : ∃ W, w1.alloc (.cells #[.int .i64 P, .int .i64 Q, .int .i64 E] 79) = W := ⟨_, rfl⟩
  rw [hW] at C S1 R1 HB1 ⊢
  obtain ⟨gc, hg⟩ : ∃ g, w1.heap.size = g := ⟨_, rfl⟩
  rw [hg] at C ⊢
  clear hW hg hb1 s0 s1 s2 S R HB HCALL
  obtain ⟨s0, s1, s2⟩ := Blk.cells3 S1
  obtain ⟨c0, c1, c2⟩ := Blk.cells3 C
  have r0 : W2.cell? ⟨w.heap.size + 1, 0, none⟩ = some (.int .i64 0) := Blk.cell R1 0 rfl
  have f0 := R1.froz 0
  have HR9 : Hid (Calls Tryd.prog 55 #[.agg #[.int .i64 kd, .slice e1 e2 e3, .slice e4 e5 e6]] W2 fun e w' => e = .returned (.bool false) ∧ Bel W2 w') := Lib.hid (by have h := HRT.out W2 (by have := HB1.out.size; omega) (by have := HB1.out.size; omega) (HS.out.keep (KeepB.bel HB1.out)) (HF.out.bel HB1.out); rw [H5.out] at h; exact h)
  clear HRT
  gi_wp2_with ((try refine ⟨trivial, ?_⟩); gi_at_call 54; refine (callsIn_wide.2 (HIK.out _)).mono ?_; rintro e w' ⟨rfl, rfl⟩)
  refine ⟨trivial, ?_⟩
  refine (callsIn_wide.2 HR9.out).mono ?_
  rintro e w3 ⟨rfl, hb3⟩
  have S3 := Blk.bel S1 hb3; have R3 := Blk.bel R1 hb3; have HB3 := Lib.hid (bthen HB1.out hb3); clear hb3 s0 s1 s2 r0 f0; obtain ⟨s0, s1, s2⟩ := Blk.cells3 S3; have r0 : w3.cell? ⟨w.heap.size + 1, 0, none⟩ = some (.int .i64 0) := Blk.cell R3 0 rfl; have f0 := R3.froz 0
  gi_wp2
  have R2 : Blk (w3.setCell ⟨w.heap.size + 1, 0, none⟩ (.int .i64 9)) (w.heap.size + 1) #[.int .i64 9] 29 := R3.set 0 _
  have q0 : (w3.setCell ⟨w.heap.size + 1, 0, none⟩ (.int .i64 9)).cell? ⟨w.heap.size + 1, 0, none⟩ = some (.int .i64 9) := Blk.cell R2 0 rfl
  refine ⟨.int .i64 9, ?_, rfl, below_set HB3.out (by omega) _⟩
  simp [results, Tryd.results21, go_sem, q0]
theorem ShB.isSh {B k : Nat} (hk : B ≤ k) {W : World} : ∀ (d : Nat) {c : Value × Value × Value} {s : Sh}, ShB B W d c s → IsSh k W d c s.flat
  | 0, _, _, hs => hs.elim
  | d + 1, c, .mk kind pts ps, ⟨h1, ⟨a1, p1, e1, _, m1, x1⟩, cs, h3, ⟨a2, p2, e2, _, m2, x2⟩, h5⟩ => by
    have hz : (cs.zip (ps.map Sh.flat)).map (·.1) = cs := by rw [List.map_fst_zip]; rw [List.length_map]; omega
    have hz2 : (cs.zip (ps.map Sh.flat)).map (·.2) = ps.map Sh.flat := by rw [List.map_snd_zip]; rw [List.length_map]; omega
    have hf : ∀ l : List Sh, (l.map Sh.flat).flatten = flats l := fun l => by
      induction l with
      | nil => rfl
      | cons a l ih => simp [flats, ih]
    have hP1 : PtsAt k W c.2.1 pts := ⟨a1, p1, e1, m1, fun i hi => by
      obtain ⟨b, off, e, hb, hc⟩ := x1 i hi
      exact ⟨b, off, e, by omega, hc⟩⟩
    have hP2 : PartsAt k W c.2.2 cs := ⟨a2, p2, e2, m2, fun i hi => by
      obtain ⟨b, off, e, hb, hc⟩ := x2 i hi
      exact ⟨b, off, e, by omega, hc⟩⟩
    refine ⟨kind, pts, cs.zip (ps.map Sh.flat), h1, hP1, by rw [hz]; exact hP2, fun p hp => ?_, ?_⟩
    · obtain ⟨i, hi, rfl⟩ := List.mem_iff_getElem.1 hp
      rw [List.length_zip, List.length_map] at hi
      have hi1 : i < cs.length := by omega
      have hi2 : i < ps.length := by omega
      rw [List.getElem_zip, List.getElem_map]
      exact ShB.isSh hk d (h5 i cs[i] ps[i] (List.getElem?_eq_getElem hi1) (List.getElem?_eq_getElem hi2))
    · rw [hz2, hf]; unfold Sh.flat; rfl
set_option maxHeartbeats 4000000 in
set_option maxRecDepth 100000 in
theorem check6_calls (D : Nat) (s : Sh) (c : Value × Value × Value) (w : World) (B : Nat) (hB : B ≤ w.heap.size) (hw1 : 1 ≤ w.heap.size) (hs : ShB B w D c s) (hF : FormsAt w) (P Q E : Int) (hcn : MShape.count s = ⟨P, Q, E⟩) (h1 : ¬ 16 < E) (h2 : ¬ 4000 < P) (h3 : ¬ 1000 < Q) (h4 : isKind s.kind = true) (h5 : right s = true) (r : Int) (hr9 : (if s.flat.any MShape.nowhere = true then 11 else 0) = r) :
    Calls Tryd.prog 21 #[.agg #[c.1, c.2.1, c.2.2]] w fun e w' => e = .returned (.int .i64 r) ∧ Bel w w' := by
  have HC := Lib.hid (count_calls D s)
  have HS := Lib.hid hs
  rw [hcn] at HC
  clear hcn
  have hkk := ShB.kind hs
  obtain ⟨kd, e1, e2, e3, e4, e5, e6, rfl⟩ := hs.forms
  dsimp only at hkk ⊢
  have HRT := Lib.hid (fun W h1 h2 h3 h4 => right_calls D s (.int .i64 kd, .slice e1 e2 e3, .slice e4 e5 e6) W B h1 h2 h3 h4)
  clear hs
  have S := (Blk.new w #[.int .i64 kd, .slice e1 e2 e3, .slice e4 e5 e6] 25).alloc (.cells #[.int .i64 0] 29)
  have R := Blk.new_at (W := w.alloc (.cells #[.int .i64 kd, .slice e1 e2 e3, .slice e4 e5 e6] 25)) (g := w.heap.size + 1) (by simp) #[.int .i64 0] 29
  have HB : Hid (Below w.heap.size w ((w.alloc (.cells #[.int .i64 kd, .slice e1 e2 e3, .slice e4 e5 e6] 25)).alloc (.cells #[.int .i64 0] 29))) := Lib.hid (by repeat (first | exact Below.refl _ _ | refine Below.alloc ?_ (by simp <;> omega) _))
  have HC : Hid (∀ W, B ≤ W.heap.size → ShB B W D (.int .i64 kd, .slice e1 e2 e3, .slice e4 e5 e6) s → Calls Tryd.prog 53 #[.agg #[.int .i64 kd, .slice e1 e2 e3, .slice e4 e5 e6]] W fun e w' => e = .returned (.agg #[.int .i64 P, .int .i64 Q, .int .i64 E]) ∧ Bel W w' ∧ cnOk ⟨P, Q, E⟩) := Lib.hid (fun W h1 h2 => by have h := HC.out (.int .i64 kd, .slice e1 e2 e3, .slice e4 e5 e6) W B h1 h2; exact h)
  have hkd : kd = s.kind := by injection hkk
  have HIK := Lib.hid (fun w => isKind_calls kd w true (by rw [hkd]; exact h4))
  have HF := Lib.hid hF
  clear hkd hkk hF
  have H5 := Lib.hid h5
  have HPOST := hr9
  clear h4 h5 hr9
  refine (callsIn_wide (n := 5)).1 ?_
  refine callsIn_of_wp_marks Tryd.func21 rfl trivial ?_ rfl
  simp only [Tryd.ntmps21, List.size_toArray, List.length_cons, List.length_nil, Nat.reduceAdd, Nat.reduceSub, Array.replicate_succ, Array.replicate_zero, List.push_toArray, List.append_toArray, List.nil_append, List.cons_append]
  gi_upto_region 1 with (fail)
  obtain ⟨W, hW⟩ : ∃ W, (w.alloc (.cells #[.int .i64 kd, .slice e1 e2 e3, .slice e4 e5 e6] 25)).alloc (.cells #[.int .i64 0] 29) = W := ⟨_, rfl⟩
  rw [hW] at S R HB ⊢
  clear hW
  obtain ⟨s0, s1, s2⟩ := Blk.cells3 S
  have HCALL := Lib.hid (HC.out W (by have := HB.out.size; omega) (HS.out.keep (KeepB.bel HB.out)))
  gi_upto_region 2 with ((try refine ⟨trivial, ?_⟩); gi_at_call 53; refine (callsIn_wide.2 (HCALL.out)).mono ?_; rintro e w1 ⟨rfl, hb1, -⟩)
  have C := Blk.new w1 #[.int .i64 P, .int .i64 Q, .int .i64 E] 79
  have S1 := Blk.alloc (Blk.bel S hb1) (.cells #[.int .i64 P, .int .i64 Q, .int .i64 E] 79)
  have R1 := Blk.alloc (Blk.bel R hb1) (.cells #[.int .i64 P, .int .i64 Q, .int .i64 E] 79)
  have HB1 := Lib.hid ((bthen HB.out hb1).alloc (bthen HB.out hb1).size (.cells #[.int .i64 P, .int .i64 Q, .int .i64 E] 79))
  obtain ⟨W2, hW⟩ : ∃ W, w1.alloc (.cells #[.int .i64 P, .int .i64 Q, .int .i64 E] 79) = W := ⟨_, rfl⟩
  rw [hW] at C S1 R1 HB1 ⊢
  obtain ⟨gc, hg⟩ : ∃ g, w1.heap.size = g := ⟨_, rfl⟩
  rw [hg] at C ⊢
  clear hW hg hb1 s0 s1 s2 S R HB HCALL
  obtain ⟨s0, s1, s2⟩ := Blk.cells3 S1
  obtain ⟨c0, c1, c2⟩ := Blk.cells3 C
  have r0 : W2.cell? ⟨w.heap.size + 1, 0, none⟩ = some (.int .i64 0) := Blk.cell R1 0 rfl
  have f0 := R1.froz 0
  have HR9 : Hid (Calls Tryd.prog 55 #[.agg #[.int .i64 kd, .slice e1 e2 e3, .slice e4 e5 e6]] W2 fun e w' => e = .returned (.bool true) ∧ Bel W2 w') := Lib.hid (by have h := HRT.out W2 (by have := HB1.out.size; omega) (by have := HB1.out.size; omega) (HS.out.keep (KeepB.bel HB1.out)) (HF.out.bel HB1.out); rw [H5.out] at h; exact h)
  clear HRT
  gi_wp2_with ((try refine ⟨trivial, ?_⟩); (first | (gi_at_call 54; refine (callsIn_wide.2 (HIK.out _)).mono ?_; rintro e w' ⟨rfl, rfl⟩) | (gi_at_call 55; refine (callsIn_wide.2 (HR9.out)).mono ?_; rintro e w3 ⟨rfl, hb3⟩; have S3 := Blk.bel S1 hb3; have R3 := Blk.bel R1 hb3; have HB3 := Lib.hid (bthen HB1.out hb3); clear hb3 s0 s1 s2 r0 f0; obtain ⟨s0, s1, s2⟩ := Blk.cells3 S3; have r0 : w3.cell? ⟨w.heap.size + 1, 0, none⟩ = some (.int .i64 0) := Blk.cell R3 0 rfl; have f0 := R3.froz 0) | (gi_at_call 28; refine (All_in Fence.wide _ trivial rfl _ _ _ _).mono ?_; rintro e w' ⟨rfl, rfl⟩)))
  have A9 := Lib.hid (Blk.new w3 #[.int .i64 kd, .slice e1 e2 e3, .slice e4 e5 e6] 25)
  have R9 := Lib.hid (Blk.alloc R3 (.cells #[.int .i64 kd, .slice e1 e2 e3, .slice e4 e5 e6] 25))
  have HB9 := Lib.hid (HB3.out.alloc HB3.out.size (.cells #[.int .i64 kd, .slice e1 e2 e3, .slice e4 e5 e6] 25))
  obtain ⟨W9, hW⟩ : ∃ X, w3.alloc (.cells #[.int .i64 kd, .slice e1 e2 e3, .slice e4 e5 e6] 25) = X := ⟨_, rfl⟩
  rw [hW] at A9 R9 HB9 ⊢
  obtain ⟨b, hb⟩ : ∃ g, w3.heap.size = g := ⟨_, rfl⟩
  rw [hb] at A9 ⊢
  clear hW hb s0 s1 s2 r0 f0 c0 c1 c2
  have hgR : w.heap.size + 1 < W9.heap.size := R9.out.lt
  obtain ⟨g, hg⟩ : ∃ g, w.heap.size + 1 = g := ⟨_, rfl⟩
  have hwg : w.heap.size < g := by omega
  have hs9 : IsSh g W9 D (.int .i64 kd, .slice e1 e2 e3, .slice e4 e5 e6) s.flat := ShB.isSh (by omega) D (HS.out.keep (KeepB.bel HB9.out))
  rw [hg] at R9 hgR ⊢
  obtain ⟨out, hout⟩ : ∃ l, s.flat = l := ⟨_, rfl⟩
  rw [hout] at hs9 HPOST
  clear hg
  refine wpIn_rangeFunc_ownH (F := Fence.wide) rfl (by omega) (gf := 56) (lb := #[.pointer (some ⟨b, 0, none⟩)]) rfl trivial (enters_of Tryd.func56 (by kernel_rfl) rfl)
    (seq_stops Fence.wide rfl 4 trivial trivial rfl b g D _ out W9 A9.out hgR hs9) Kx.trans (fun W l o o' _ h ho _ => Kx.put W l o o' h ho) (Below.refl _ _) (fun _ => rfl)
    (fun pre W => (Blk W g #[.int .i64 0] 29 ∧ pre.any MShape.nowhere = false) ∧ Below w.heap.size w W)
    (fun c pre W => (c = .ret ∧ Blk W g #[.int .i64 11] 29 ∧ pre.any MShape.nowhere = true) ∧ Below w.heap.size w W)
    (OwnFrom.and (fun s X Y row hs hg hr => ⟨(Own.from (blk_own (fun _ : List (Int × Int) => #[Value.int .i64 0])) _) s X Y row hs.1 hg hr, hs.2⟩) (ownFrom_below (Nat.le_refl _) HB9.out.size))
    (fun c => OwnFrom.and (fun s X Y row hs hg hr => ⟨hs.1, (Own.from (blk_own (fun _ : List (Int × Int) => #[Value.int .i64 11])) _) s X Y row hs.2.1 hg hr, hs.2.2⟩) (ownFrom_below (Nat.le_refl _) HB9.out.size))
    ⟨⟨R9.out, rfl⟩, HB9.out⟩
    (fun x a' W => ∃ q, g < q ∧ Blk W q #[.int .i64 x.1, .int .i64 x.2] 41 ∧ a' = { tmps := #[.agg #[.int .i64 kd, .slice e1 e2 e3, .slice e4 e5 e6], .pointer (some ⟨w.heap.size, 0, none⟩), .pointer (some ⟨g, 0, none⟩), .pointer (some ⟨gc, 0, none⟩), .pointer (some ⟨q, 0, none⟩), .agg #[.int .i64 kd, .slice e1 e2 e3, .slice e4 e5 e6], .agg #[.int .i64 P, .int .i64 Q, .int .i64 E], .bool (decide (16 < E)), .pointer (some ⟨gc, 2, none⟩), .int .i64 E, .bool (decide (16 < E)), .bool (decide (4000 < P) || decide (1000 < Q)), .pointer (some ⟨gc, 0, none⟩), .int .i64 P, .bool (decide (4000 < P)), .bool (decide (4000 < P)), .pointer (some ⟨gc, 1, none⟩), .int .i64 Q, .bool (decide (1000 < Q)), .bool (decide (4000 < P) || decide (1000 < Q)), .bool false, .pointer (some ⟨w.heap.size, 0, none⟩), .int .i64 kd, .bool true, .bool false, .bool false, .agg #[.int .i64 kd, .slice e1 e2 e3, .slice e4 e5 e6], .bool true, .bool false, .bool false, .agg #[.int .i64 kd, .slice e1 e2 e3, .slice e4 e5 e6], .func (.func 56) #[] #[.pointer (some ⟨b, 0, none⟩)], .agg #[.int .i64 x.1, .int .i64 x.2], undef, undef, undef, undef, undef, undef, undef, undef], defers := [] })
    (fun x a' s X Y row hx hg hr => by
      obtain ⟨q, h1, h2, h3⟩ := hx
      exact ⟨q, h1, (Own.from (blk_own (fun _ : Unit => #[.int .i64 x.1, .int .i64 x.2])) _) () X Y row h2 hg hr, h3⟩) ?assign ?body ?done ?stop
  case assign =>
    rintro l pre x W K ⟨⟨hi1, hi2⟩, hi3⟩ hK
    have hq := Blk.lt hi1
    gi_wp2
    exact hK _ _ ((KeepsOthers.alloc _ _).from _) (Kx.alloc _ _) ⟨⟨Blk.alloc hi1 _, hi2⟩, hi3.alloc hi3.size _⟩ ⟨W.heap.size, hq, Blk.new W _ _, rfl⟩
  case body =>
    rintro l pre x a' W hl hr ⟨⟨hi1, hi2⟩, hi3⟩ ⟨q, hq, hqb, rfl⟩ hlt
    have p0 : W.cell? ⟨q, 0, none⟩ = some (.int .i64 x.1) := Blk.cell hqb 0 rfl
    have p1 : W.cell? ⟨q, 1, none⟩ = some (.int .i64 x.2) := Blk.cell hqb 1 rfl
    have r0 : W.cell? ⟨g, 0, none⟩ = some (.int .i64 0) := Blk.cell hi1 0 rfl
    have f0 := hi1.froz 0
    have hsn : (pre ++ [x]).any MShape.nowhere = (x.1 == -9223372036854775808 || x.2 == -9223372036854775808) := by rw [List.any_append, hi2]; simp [MShape.nowhere]
    have HSN := Lib.hid hsn
    have HI2 := Lib.hid hi2
    clear hsn hi2
    cases b1 : (x.1 == -9223372036854775808) <;> cases b2 : (x.2 == -9223372036854775808)
    all_goals
      rw [b1, b2] at HSN
      gi_wp2
    · exact ⟨kf_bel (Below.refl _ _), Kx.bel (Below.refl _ _), ⟨hi1, HSN.out⟩, hi3⟩
    all_goals exact ⟨kf_set (kf_bel (Below.refl _ _)) _ _, ⟨rfl, hi1.set 0 _, HSN.out⟩, below_set hi3 (by omega) _⟩
  case done =>
    rintro D9 ys W hD rfl ⟨⟨hi1, hi2⟩, hi3⟩ hK
    rw [hi2] at HPOST
    have r0 : W.cell? ⟨g, 0, none⟩ = some (.int .i64 0) := Blk.cell hi1 0 rfl
    have f0 := hi1.froz 0
    subst HPOST
    have K9 := (kf_set (KeepsFrom.refl 0 W) ⟨g, 0, none⟩ (.int .i64 0)).same D9 _ (Nat.zero_le _) hK rfl
    have R9 : Blk (W.setCell ⟨g, 0, none⟩ (.int .i64 0)) g #[.int .i64 0] 29 := hi1.set 0 _
    have B9 := below_set hi3 (g := g) (i := 0) (by omega) (.int .i64 0)
    gi_wp2
    obtain ⟨W8, hW⟩ : ∃ X, W.setCell ⟨g, 0, none⟩ (.int .i64 0) = X := ⟨_, rfl⟩
    rw [hW] at R9 B9 K9 ⊢
    clear hW r0 f0 hi1 hi2 hi3 hK
    refine ⟨by simp, .inl ⟨_, _, rfl, run_takeDeferred K9, ?_⟩⟩
    have R10 := Blk.put9 R9 (j := D9) (by omega) (.deferred none)
    have q0 : (W8.putObj D9 (.deferred none)).cell? ⟨g, 0, none⟩ = some (.int .i64 0) := Blk.cell R10 0 rfl
    refine ⟨.int .i64 0, ?_, rfl, below_put9 B9 (by omega) _⟩
    simp [results, Tryd.results21, go_sem, q0]
  case stop =>
    rintro D9 c pre W hD hpre ⟨⟨rfl, hi1, hi2⟩, hi3⟩ hK
    obtain ⟨t9, rfl⟩ := hpre
    rw [List.any_append, hi2] at HPOST
    have HPOST : r = 11 := by simpa using HPOST.symm
    subst HPOST
    have r0 : W.cell? ⟨g, 0, none⟩ = some (.int .i64 11) := Blk.cell hi1 0 rfl
    have f0 := hi1.froz 0
    gi_wp2
    clear r0 f0
    refine ⟨by simp, .inl ⟨_, _, rfl, run_takeDeferred hK, ?_⟩⟩
    have R10 := Blk.put9 hi1 (j := D9) (by omega) (.deferred none)
    have q0 : (W.putObj D9 (.deferred none)).cell? ⟨g, 0, none⟩ = some (.int .i64 11) := Blk.cell R10 0 rfl
    refine ⟨.int .i64 11, ?_, rfl, below_put9 hi3 (by omega) _⟩
    simp [results, Tryd.results21, go_sem, q0]
theorem check_calls (D : Nat) (s : Sh) (c : Value × Value × Value) (w : World) (B : Nat) (hB : B ≤ w.heap.size) (hw1 : 1 ≤ w.heap.size) (hs : ShB B w D c s) (hF : FormsAt w) :
    Calls Tryd.prog 21 #[.agg #[c.1, c.2.1, c.2.2]] w fun e w' => e = .returned (.int .i64 (MShape.check s)) ∧ Bel w w' := by
  obtain ⟨⟨P, Q, E⟩, hcn⟩ : ∃ x, MShape.count s = x := ⟨_, rfl⟩
  unfold MShape.check
  rw [hcn]
  dsimp only
  by_cases h1 : 16 < E
  · rw [if_pos h1]; exact check1_calls D s c w B hB hs P Q E hcn h1
  rw [if_neg h1]
  by_cases h2 : 4000 < P
  · rw [if_pos (Or.inl h2)]; exact check2_calls D s c w B hB hw1 hs hF P Q E hcn h1 h2
  by_cases h3 : 1000 < Q
  · rw [if_pos (Or.inr h3)]; exact check3_calls D s c w B hB hw1 hs hF P Q E hcn h1 h2 h3
  rw [if_neg (fun h => h.elim h2 h3)]
  cases h4 : isKind s.kind
  · rw [if_pos (by simp)]; exact check4_calls D s c w B hB hw1 hs hF P Q E hcn h1 h2 h3 h4
  cases h5 : right s
  · rw [if_pos (by simp)]; exact check5_calls D s c w B hB hw1 hs hF P Q E hcn h1 h2 h3 h4 h5
  rw [if_neg (by simp)]
  exact check6_calls D s c w B hB hw1 hs hF P Q E hcn h1 h2 h3 h4 h5 _ rfl
end Go.Proofs.YtfknhpgelleenaaDoor.K
end
