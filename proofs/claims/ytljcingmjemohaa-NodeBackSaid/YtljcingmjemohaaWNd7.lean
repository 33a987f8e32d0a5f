/- Nodes alike; a node in the document's form. -/
import Derived.Test.YtljcingmjemohaaKB
import Derived.Handy
import Derived.Test.YtljcingmjemohaaWNd5
namespace Go.Proofs.Ytljcingmjemohaa.K
open Go Go.RowKit Go.Proofs.YtljcingmjemohaaW.PrintWords Go.Proofs.YtljcingmjemohaaW.PrintLast Go.Proofs.YtljcingmjemohaaW.PrintMore
set_option linter.unusedVariables false
set_option linter.unusedSimpArgs false
open Go.Proofs.Ytljcingmjemohaa.MBox (Bx noneB)
open Go.Proofs.Ytljcingmjemohaa.MChoose (En En0)
open Go.Proofs.Ytljcingmjemohaa.MNd
open Go.Proofs.Ytljcingmjemohaa.MBox (has good)
set_option maxHeartbeats 4000000 in
set_option maxRecDepth 100000 in
theorem nsame_calls (a b : Int) (A1 A2 : Option Addr) (c1 c2 : Nat) (xs ys : List En) (w : World) (h1 : CE w A1 xs) (h2 : CE w A2 ys) :
    Calls Try.prog 20 #[.agg #[.int .i64 a, .slice A1 xs.length c1], .agg #[.int .i64 b, .slice A2 ys.length c2]] w fun e w' => e = .returned (.bool (sameN a b xs ys)) ∧ Bel w w' := by
  have HX := Lib.hid h1
  have HY := Lib.hid h2
  have X := (Blk.new w #[.int .i64 a, .slice A1 xs.length c1] 24).alloc (.cells #[.int .i64 b, .slice A2 ys.length c2] 24)
  have Y := Blk.new_at (W := w.alloc (.cells #[.int .i64 a, .slice A1 xs.length c1] 24)) (g := w.heap.size + 1) (by simp) #[.int .i64 b, .slice A2 ys.length c2] 24
  have HB : Hid (Bel w ((w.alloc (.cells #[.int .i64 a, .slice A1 xs.length c1] 24)).alloc (.cells #[.int .i64 b, .slice A2 ys.length c2] 24))) := Lib.hid (((Bel.refl w).alloc (Nat.le_refl _) _).alloc (by simp) _)
  clear h1 h2
  obtain ⟨q, hq⟩ : ∃ q, (a == b) = q := ⟨_, rfl⟩
  have HQ : Hid (sameN a b xs ys = (q && sameL xs ys)) := Lib.hid (by unfold sameN; rw [hq])
  rw [HQ.out]
  go_enter Try.func20, Try.ntmps20
  go_upto_region 1 with (fail)
  obtain ⟨W, hW⟩ : ∃ Y, (w.alloc (.cells #[.int .i64 a, .slice A1 xs.length c1] 24)).alloc (.cells #[.int .i64 b, .slice A2 ys.length c2] 24) = Y := ⟨_, rfl⟩
  rw [hW] at X Y HB ⊢
  clear hW
  obtain ⟨gx, hgx⟩ : ∃ x, w.heap.size = x := ⟨_, rfl⟩
  rw [hgx] at X Y ⊢
  obtain ⟨gy, hgy⟩ : ∃ x, gx + 1 = x := ⟨_, rfl⟩
  rw [hgy] at Y ⊢
  clear hgx hgy
  have x0 : W.cell? ⟨gx, 0, none⟩ = some (.int .i64 a) := X.cell 0 rfl
  have x1 : W.cell? ⟨gx, 1, none⟩ = some (.slice A1 xs.length c1) := X.cell 1 rfl
  have y0 : W.cell? ⟨gy, 0, none⟩ = some (.int .i64 b) := Y.cell 0 rfl
  have y1 : W.cell? ⟨gy, 1, none⟩ = some (.slice A2 ys.length c2) := Y.cell 1 rfl
  have HSL := Lib.hid (slEq_calls A1 A2 c1 c2 xs ys W (HX.out.below HB.out) (HY.out.below HB.out) _ rfl)
  clear X Y
  cases q
  · go_wp2
    go_ret
    exact ⟨by first | rfl | simp, HB.out⟩
  · go_wp2_with (go_at_call 53; refine (HSL.out).mono ?_; rintro e w1 ⟨rfl, hb1⟩; have HB1 := Lib.hid (bthen HB.out hb1); clear hb1)
    go_ret
    exact ⟨by first | rfl | simp, HB1.out⟩
set_option maxHeartbeats 4000000 in
set_option maxRecDepth 100000 in
theorem rsame_calls (a b : Int) (A1 A2 : Option Addr) (c1 c2 : Nat) (xs ys : List En) (w : World) (h1 : CE w A1 xs) (h2 : CE w A2 ys) :
    Calls Try.prog 21 #[.agg #[.int .i64 a, .slice A1 xs.length c1], .agg #[.int .i64 b, .slice A2 ys.length c2]] w fun e w' => e = .returned (.bool (sameN a b xs ys)) ∧ Bel w w' := by
  have HX := Lib.hid h1
  have HY := Lib.hid h2
  have X := (Blk.new w #[.int .i64 a, .slice A1 xs.length c1] 28).alloc (.cells #[.int .i64 b, .slice A2 ys.length c2] 28)
  have Y := Blk.new_at (W := w.alloc (.cells #[.int .i64 a, .slice A1 xs.length c1] 28)) (g := w.heap.size + 1) (by simp) #[.int .i64 b, .slice A2 ys.length c2] 28
  have HB : Hid (Bel w ((w.alloc (.cells #[.int .i64 a, .slice A1 xs.length c1] 28)).alloc (.cells #[.int .i64 b, .slice A2 ys.length c2] 28))) := Lib.hid (((Bel.refl w).alloc (Nat.le_refl _) _).alloc (by simp) _)
  clear h1 h2
  obtain ⟨q, hq⟩ : ∃ q, (a == b) = q := ⟨_, rfl⟩
  have HQ : Hid (sameN a b xs ys = (q && sameL xs ys)) := Lib.hid (by unfold sameN; rw [hq])
  rw [HQ.out]
  go_enter Try.func21, Try.ntmps21
  go_upto_region 1 with (fail)
  obtain ⟨W, hW⟩ : ∃ Y, (w.alloc (.cells #[.int .i64 a, .slice A1 xs.length c1] 28)).alloc (.cells #[.int .i64 b, .slice A2 ys.length c2] 28) = Y := ⟨_, rfl⟩
  rw [hW] at X Y HB ⊢
  clear hW
  obtain ⟨gx, hgx⟩ : ∃ x, w.heap.size = x := ⟨_, rfl⟩
  rw [hgx] at X Y ⊢
  obtain ⟨gy, hgy⟩ : ∃ x, gx + 1 = x := ⟨_, rfl⟩
  rw [hgy] at Y ⊢
  clear hgx hgy
  have x0 : W.cell? ⟨gx, 0, none⟩ = some (.int .i64 a) := X.cell 0 rfl
  have x1 : W.cell? ⟨gx, 1, none⟩ = some (.slice A1 xs.length c1) := X.cell 1 rfl
  have y0 : W.cell? ⟨gy, 0, none⟩ = some (.int .i64 b) := Y.cell 0 rfl
  have y1 : W.cell? ⟨gy, 1, none⟩ = some (.slice A2 ys.length c2) := Y.cell 1 rfl
  have HSL := Lib.hid (sameList_calls A1 A2 c1 c2 xs ys W (HX.out.below HB.out) (HY.out.below HB.out) _ rfl)
  clear X Y
  cases q
  · go_wp2
    go_ret
    exact ⟨by first | rfl | simp, HB.out⟩
  · go_wp2_with (go_at_call 42; refine (HSL.out).mono ?_; rintro e w1 ⟨rfl, hb1⟩; have HB1 := Lib.hid (bthen HB.out hb1); clear hb1)
    go_ret
    exact ⟨by first | rfl | simp, HB1.out⟩
theorem RE.set {e : Nat} {w0 W : World} {v : Value} {l : List En} (h : RE e w0 W v l) {g i : Nat} (hg : some g ≠ v.ownBlock) (u : Value) : RE e w0 (W.setCell ⟨g, i, none⟩ u) v l :=
  Kd.R_mono (Kd.R_far (p := ⟨g, i, none⟩) (Kd.R_tight rfl h) (fun k hk e => hg (by rw [← hk]; exact congrArg some e.symm)) u) (fun k hk => trivial)
set_option maxHeartbeats 4000000 in
set_option maxRecDepth 100000 in
theorem plain_calls (lv : Int) (A : Option Addr) (c : Nat) (l : List En) (w : World) (h : CE w A l) (hl : l.length < 1000000) :
    Calls Try.prog 11 #[.agg #[.int .i64 lv, .slice A l.length c]] w fun e w' => ∃ A' c', e = .returned (.agg #[.int .i64 lv, .slice A' l.length c']) ∧ Hid (l.length ≤ c') ∧ Hid (CE w' A' l) ∧ Hid (Bel w w') := by
  have HX := Lib.hid h
  have hm1 := h.len
  have HL := Lib.hid hl
  have N := ((Blk.new w #[.int .i64 lv, .slice A l.length c] 24).alloc (.cells #[.int .i64 0, .slice none 0 0] 28)).alloc (.cells #[.int .i64 lv, .slice none 0 0] 28)
  have R := (Blk.new_at (W := w.alloc (.cells #[.int .i64 lv, .slice A l.length c] 24)) (g := w.heap.size + 1) (by simp) #[.int .i64 0, .slice none 0 0] 28).alloc (.cells #[.int .i64 lv, .slice none 0 0] 28)
  have O := Blk.new_at (W := (w.alloc (.cells #[.int .i64 lv, .slice A l.length c] 24)).alloc (.cells #[.int .i64 0, .slice none 0 0] 28)) (g := w.heap.size + 1 + 1) (by simp) #[.int .i64 lv, .slice none 0 0] 28
  have HB : Hid (Bel w (((w.alloc (.cells #[.int .i64 lv, .slice A l.length c] 24)).alloc (.cells #[.int .i64 0, .slice none 0 0] 28)).alloc (.cells #[.int .i64 lv, .slice none 0 0] 28))) := Lib.hid ((((Bel.refl w).alloc (Nat.le_refl _) _).alloc (by simp) _).alloc (by simp <;> omega) _)
  have hN0 : ((w.alloc (.cells #[.int .i64 lv, .slice A l.length c] 24)).alloc (.cells #[.int .i64 0, .slice none 0 0] 28)).cell? ⟨w.heap.size, 0, none⟩ = some (.int .i64 lv) := ((Blk.new w #[.int .i64 lv, .slice A l.length c] 24).alloc _).cell 0 rfl
  clear h hl
  go_enter Try.func11, Try.ntmps11
  go_upto_region 2 with (fail)
  obtain ⟨W, hW⟩ : ∃ Y, ((w.alloc (.cells #[.int .i64 lv, .slice A l.length c] 24)).alloc (.cells #[.int .i64 0, .slice none 0 0] 28)).alloc (.cells #[.int .i64 lv, .slice none 0 0] 28) = Y := ⟨_, rfl⟩
  rw [hW] at N R O HB ⊢
  clear hW hN0
  obtain ⟨gn, hgn⟩ : ∃ x, w.heap.size = x := ⟨_, rfl⟩
  rw [hgn] at N R O ⊢
  obtain ⟨g2, hg2⟩ : ∃ x, gn + 1 = x := ⟨_, rfl⟩
  rw [hg2] at R O ⊢
  obtain ⟨g3, hg3⟩ : ∃ x, g2 + 1 = x := ⟨_, rfl⟩
  rw [hg3] at O ⊢
  have HG : Hid (w.heap.size = gn ∧ gn + 1 = g2 ∧ g2 + 1 = g3) := Lib.hid ⟨hgn, hg2, hg3⟩
  clear hgn hg2 hg3
  have n1 : W.cell? ⟨gn, 1, none⟩ = some (.slice A l.length c) := N.cell 1 rfl
  have HR2 := Lib.hid R
  have HO3 := Lib.hid O
  clear N R O
  go_wp2
  clear n1
  go_loopw [12] (fun i wr => ∃ (k : Nat) (Av : Option Addr) (nv cv : Nat), i = .int .i64 k ∧ k ≤ l.length ∧ Hid (Below w.heap.size w wr) ∧ Hid (Blk wr g3 #[.int .i64 lv, .slice Av nv cv] 28) ∧ Hid (Blk wr g2 #[.int .i64 0, .slice none 0 0] 28) ∧ Hid (RE 85 w wr (.slice Av nv cv) (l.take k))) (fun i _ => l.length - (intOf i).toNat)
  case atStart => exact ⟨0, none, 0, 0, rfl, by omega, HB, HO3, HR2, Lib.hid (by rw [List.take_zero]; exact RE.nil _ _ _)⟩
  case round =>
    obtain ⟨k, Av, nv, cv, rfl, hk, HBk, HOk, HRk, HEk⟩ := hrel
    by_cases hlt : k < l.length
    · obtain ⟨b, off, e8, _, x0, x1, x2, x3, x4, x5⟩ := en_at (HX.out.below HBk.out) k hlt
      subst e8
      have HTK : Hid (l.take (k + 1) = l.take k ++ [l[k]'hlt]) := Lib.hid (List.take_succ_eq_append_getElem hlt)
      obtain ⟨x, hx⟩ : ∃ x, l[k]'hlt = x := ⟨_, rfl⟩
      rw [hx] at x0 x1 x2 x3 x4 x5 HTK
      have HKL := Lib.hid hlt
      have P := Blk.new wr #[.int .i64 x.id, .bool x.bx.no, .int .i64 x.bx.lx, .int .i64 x.bx.ly, .int .i64 x.bx.hx, .int .i64 x.bx.hy] 57
      have HBp := Lib.hid (HBk.out.alloc HBk.out.size (.cells #[.int .i64 x.id, .bool x.bx.no, .int .i64 x.bx.lx, .int .i64 x.bx.ly, .int .i64 x.bx.hx, .int .i64 x.bx.hy] 57))
      have HOp := Lib.hid (HOk.out.alloc (.cells #[.int .i64 x.id, .bool x.bx.no, .int .i64 x.bx.lx, .int .i64 x.bx.ly, .int .i64 x.bx.hx, .int .i64 x.bx.hy] 57))
      have HRp := Lib.hid (HRk.out.alloc (.cells #[.int .i64 x.id, .bool x.bx.no, .int .i64 x.bx.lx, .int .i64 x.bx.ly, .int .i64 x.bx.hx, .int .i64 x.bx.hy] 57))
      have HEp := Lib.hid (HEk.out.below ((Bel.refl wr).alloc (Nat.le_refl _) (.cells #[.int .i64 x.id, .bool x.bx.no, .int .i64 x.bx.lx, .int .i64 x.bx.ly, .int .i64 x.bx.hx, .int .i64 x.bx.hy] 57)))
      clear hx HBk HOk HRk HEk
      go_upto_region 5 with (fail)
      obtain ⟨w5, hW⟩ : ∃ Y, wr.alloc (.cells #[.int .i64 x.id, .bool x.bx.no, .int .i64 x.bx.lx, .int .i64 x.bx.ly, .int .i64 x.bx.hx, .int .i64 x.bx.hy] 57) = Y := ⟨_, rfl⟩
      rw [hW] at P HBp HOp HRp HEp ⊢
      obtain ⟨gp, hg⟩ : ∃ g, wr.heap.size = g := ⟨_, rfl⟩
      rw [hg] at P ⊢
      clear hW hg x0 x1 x2 x3 x4 x5
      obtain ⟨p0, p1, p2, p3, p4, p5⟩ := Blk.cells6 P
      have o1 : w5.cell? ⟨g3, 1, none⟩ = some (.slice Av nv cv) := HOp.out.cell 1 rfl
      clear P
      have al := (Bel.refl w5).alloc (Nat.le_refl _) (.cells #[.int .i64 x.id, .bool x.bx.no, .int .i64 x.bx.lx, .int .i64 x.bx.ly, .int .i64 x.bx.hx, .int .i64 x.bx.hy] 85)
      have HCL := Lib.hid (CE.one (Blk.new w5 #[.int .i64 x.id, .bool x.bx.no, .int .i64 x.bx.lx, .int .i64 x.bx.ly, .int .i64 x.bx.hx, .int .i64 x.bx.hy] 85))
      have HE6 := Lib.hid (HEp.out.below al)
      have HB6 := Lib.hid (bthen HBp.out al)
      have HO6 := Lib.hid (Blk.bel HOp.out al)
      have HR6 := Lib.hid (Blk.bel HRp.out al)
      have HNO : Hid (some g3 ≠ (Value.slice Av nv cv).ownBlock ∧ some g2 ≠ (Value.slice Av nv cv).ownBlock) := Lib.hid ⟨Kd.R_ne HE6.out HO6.out (by decide), Kd.R_ne HE6.out HR6.out (by decide)⟩
      clear al
      have hf : (w5.alloc (.cells #[.int .i64 x.id, .bool x.bx.no, .int .i64 x.bx.lx, .int .i64 x.bx.ly, .int .i64 x.bx.hx, .int .i64 x.bx.hy] 85)).cell? ⟨g3, 1, none⟩ = some (.slice Av nv cv) := HO6.out.cell 1 rfl
      go_wp2_with (at_builtin; refine appEn (w0 := w) (.tmp 17) (.tmp 19) rfl rfl (.slice Av nv cv) (l.take k) [x] (some ⟨w5.heap.size, 0, none⟩) 1 rfl rfl HE6.out HCL.out HB6.out (by rw [List.length_take]; have := HL.out; simp; omega) ?_; intro v7 w7 hr7 hb7; obtain ⟨A7, c7, hv7, hc7, hC7⟩ := hr7.out.reads; obtain ⟨n7, hn7⟩ : ∃ n, (l.take k ++ [x]).length = n := ⟨_, rfl⟩; rw [hn7] at hv7; subst hv7; have HO7 : Hid (Blk w7 g3 #[.int .i64 lv, .slice Av nv cv] 28) := Lib.hid ((hb7.out.2.block g3 HO6.out.lt HNO.out.1).trans HO6.out); have HR7 : Hid (Blk w7 g2 #[.int .i64 0, .slice none 0 0] 28) := Lib.hid ((hb7.out.2.block g2 HR6.out.lt HNO.out.2).trans HR6.out); have HB7 := Lib.hid hb7.out.1; have f1 := HO7.out.froz 1; have z1 : w7.cell? ⟨g3, 1, none⟩ = some (.slice Av nv cv) := HO7.out.cell 1 rfl; clear hC7 hc7 hn7 hb7)
      go_roundw
      case rel => exact ⟨k + 1, A7, n7, c7, by go_num, by have := HKL.out; omega, Lib.hid (below_set HB7.out (by have := HG.out; omega) _), Lib.hid (HO7.out.set 1 _), Lib.hid (HR7.out.set_ne (by have := HG.out; omega) _), Lib.hid (by rw [HTK.out]; exact RE.set hr7.out (Kd.R_ne hr7.out HO7.out (by decide)) _)⟩
      case measure => (have := HKL.out; simp [intOf] <;> omega)
    · have : k = l.length := by omega
      subst this
      clear hlt hk
      obtain ⟨A9, c9, hv9, hc9, hC9⟩ := HEk.out.reads
      rw [List.take_length] at hv9 hc9 hC9
      injection hv9 with e1 e2 e3
      subst e1 e2 e3
      have HC9 := Lib.hid hC9
      have HK9 := Lib.hid hc9
      obtain ⟨o0, o1⟩ : wr.cell? ⟨g3, 0, none⟩ = some (.int .i64 lv) ∧ wr.cell? ⟨g3, 1, none⟩ = some (.slice Av l.length cv) := ⟨HOk.out.cell 0 rfl, HOk.out.cell 1 rfl⟩
      have r0 : wr.cell? ⟨g2, 0, none⟩ = some (.int .i64 0) := HRk.out.cell 0 rfl
      have r1 : wr.cell? ⟨g2, 1, none⟩ = some (.slice none 0 0) := HRk.out.cell 1 rfl
      have f0 := HRk.out.froz 0; have f1 := HRk.out.froz 1
      have R9 := Lib.hid ((HRk.out.set 0 (.int .i64 lv)).set 1 (.slice Av l.length cv))
      have B9 := Lib.hid (below_set (i := 1) (below_set (i := 0) HBk.out (show w.heap.size ≤ g2 by have := HG.out; omega) (.int .i64 lv)) (show w.heap.size ≤ g2 by have := HG.out; omega) (.slice Av l.length cv))
      have HE9 := HEk.out
      rw [List.take_length] at HE9
      have hne := Kd.R_ne HE9 HRk.out (by decide)
      have HE10 := Lib.hid ((RE.set HE9 (i := 0) hne (.int .i64 lv)).set (i := 1) hne (.slice Av l.length cv))
      clear hC9 hc9 HE9 hne
      go_wp2
      obtain ⟨A10, c10, hv10, hc10, hC10⟩ := HE10.out.reads
      injection hv10 with e1 e2 e3
      subst e1 e3
      refine bodyPost_ret (v := .agg #[.int .i64 lv, .slice Av l.length cv]) ?_ rfl ⟨Av, cv, rfl, HK9, Lib.hid hC10, B9⟩
      have q0 := R9.out.cell 0 rfl
      have q1 := R9.out.cell 1 rfl
      simp [results, Try.results11, go_sem, q0, q1]

end Go.Proofs.Ytljcingmjemohaa.K
