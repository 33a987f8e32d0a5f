/- Texts laid as one: Boxes: growth. · Boxes: waste. -/
import Derived.Test.YtakkifedcbhgfaaDoorKB
import Derived.Handy
import Derived.Test.YtakkifedcbhgfaaDoorKX2
namespace Go.Proofs.YtakkifedcbhgfaaDoor.K
open Go Go.RowKit Go.Proofs.YtakkifedcbhgfaaDoorW.PrintWords Go.Proofs.YtakkifedcbhgfaaDoorW.PrintLast Go.Proofs.YtakkifedcbhgfaaDoorW.PrintMore
set_option linter.unusedVariables false
set_option linter.unusedSimpArgs false
open Go.Proofs.YtakkifedcbhgfaaDoor.MWide (W64 U192 addV subV addOk subOk cmpV)
open Go.Proofs.YtakkifedcbhgfaaDoor.MBox (Bx I64)
theorem kb2_re {wr w : World} {o o' : Obj} {g f : Nat} {b a : Bx} (hg : g < w.heap.size) (hf : f < w.heap.size) (hj : wr.heap.size ≤ w.heap.size) (hh : (w.alloc o).cell? ⟨g, 0, none⟩ = some (.bool b.no) ∧ (w.alloc o).cell? ⟨g, 1, none⟩ = some (.int .i64 b.lx) ∧ (w.alloc o).cell? ⟨g, 2, none⟩ = some (.int .i64 b.ly) ∧ (w.alloc o).cell? ⟨g, 3, none⟩ = some (.int .i64 b.hx) ∧ (w.alloc o).cell? ⟨g, 4, none⟩ = some (.int .i64 b.hy) ∧ (w.alloc o).cell? ⟨f, 0, none⟩ = some (.bool a.no) ∧ (w.alloc o).cell? ⟨f, 1, none⟩ = some (.int .i64 a.lx) ∧ (w.alloc o).cell? ⟨f, 2, none⟩ = some (.int .i64 a.ly) ∧ (w.alloc o).cell? ⟨f, 3, none⟩ = some (.int .i64 a.hx) ∧ (w.alloc o).cell? ⟨f, 4, none⟩ = some (.int .i64 a.hy) ∧ Bel wr (w.alloc o)) :
    (w.alloc o').cell? ⟨g, 0, none⟩ = some (.bool b.no) ∧ (w.alloc o').cell? ⟨g, 1, none⟩ = some (.int .i64 b.lx) ∧ (w.alloc o').cell? ⟨g, 2, none⟩ = some (.int .i64 b.ly) ∧ (w.alloc o').cell? ⟨g, 3, none⟩ = some (.int .i64 b.hx) ∧ (w.alloc o').cell? ⟨g, 4, none⟩ = some (.int .i64 b.hy) ∧ (w.alloc o').cell? ⟨f, 0, none⟩ = some (.bool a.no) ∧ (w.alloc o').cell? ⟨f, 1, none⟩ = some (.int .i64 a.lx) ∧ (w.alloc o').cell? ⟨f, 2, none⟩ = some (.int .i64 a.ly) ∧ (w.alloc o').cell? ⟨f, 3, none⟩ = some (.int .i64 a.hx) ∧ (w.alloc o').cell? ⟨f, 4, none⟩ = some (.int .i64 a.hy) ∧ Bel wr (w.alloc o') := by
  obtain ⟨h0, h1, h2, h3, h4, i0, i1, i2, i3, i4, hz⟩ := hh
  exact ⟨cell_re hg h0, cell_re hg h1, cell_re hg h2, cell_re hg h3, cell_re hg h4, cell_re hf i0, cell_re hf i1, cell_re hf i2, cell_re hf i3, cell_re hf i4, below_re hj hz⟩
theorem kb2_set3 {wr w : World} {g f j : Nat} {b a : Bx} {x y z : Value} (hg : g ≠ j) (hf : f ≠ j) (hj : wr.heap.size ≤ j) (hh : w.cell? ⟨g, 0, none⟩ = some (.bool b.no) ∧ w.cell? ⟨g, 1, none⟩ = some (.int .i64 b.lx) ∧ w.cell? ⟨g, 2, none⟩ = some (.int .i64 b.ly) ∧ w.cell? ⟨g, 3, none⟩ = some (.int .i64 b.hx) ∧ w.cell? ⟨g, 4, none⟩ = some (.int .i64 b.hy) ∧ w.cell? ⟨f, 0, none⟩ = some (.bool a.no) ∧ w.cell? ⟨f, 1, none⟩ = some (.int .i64 a.lx) ∧ w.cell? ⟨f, 2, none⟩ = some (.int .i64 a.ly) ∧ w.cell? ⟨f, 3, none⟩ = some (.int .i64 a.hx) ∧ w.cell? ⟨f, 4, none⟩ = some (.int .i64 a.hy) ∧ Bel wr w) :
    let W := ((w.setCell ⟨j, 0, none⟩ x).setCell ⟨j, 1, none⟩ y).setCell ⟨j, 2, none⟩ z
    W.cell? ⟨g, 0, none⟩ = some (.bool b.no) ∧ W.cell? ⟨g, 1, none⟩ = some (.int .i64 b.lx) ∧ W.cell? ⟨g, 2, none⟩ = some (.int .i64 b.ly) ∧ W.cell? ⟨g, 3, none⟩ = some (.int .i64 b.hx) ∧ W.cell? ⟨g, 4, none⟩ = some (.int .i64 b.hy) ∧ W.cell? ⟨f, 0, none⟩ = some (.bool a.no) ∧ W.cell? ⟨f, 1, none⟩ = some (.int .i64 a.lx) ∧ W.cell? ⟨f, 2, none⟩ = some (.int .i64 a.ly) ∧ W.cell? ⟨f, 3, none⟩ = some (.int .i64 a.hx) ∧ W.cell? ⟨f, 4, none⟩ = some (.int .i64 a.hy) ∧ Bel wr W := by
  obtain ⟨h0, h1, h2, h3, h4, i0, i1, i2, i3, i4, hz⟩ := hh
  exact ⟨cell_set3_ne hg h0, cell_set3_ne hg h1, cell_set3_ne hg h2, cell_set3_ne hg h3, cell_set3_ne hg h4, cell_set3_ne hf i0, cell_set3_ne hf i1, cell_set3_ne hf i2, cell_set3_ne hf i3, cell_set3_ne hf i4, below_set3 hz hj _ _ _⟩
theorem Area_is (b : Bx) (r : Int) (w : World) (hok : b.ok) (h : MBox.area b = r) : Calls Tryd.prog 44 #[.agg #[.bool b.no, .int .i64 b.lx, .int .i64 b.ly, .int .i64 b.hx, .int .i64 b.hy]] w fun e w' => e = .returned (.agg #[.int .u64 (MWide.w0 r), .int .u64 (MWide.w1 r), .int .u64 (MWide.w2 r)]) ∧ Bel w w' := h ▸ area_calls b w hok
theorem refArea_is (b : Bx) (r : Int) (w : World) (hok : b.ok) (h : MBox.area b = r) : Calls Tryd.prog 55 #[.agg #[.bool b.no, .int .i64 b.lx, .int .i64 b.ly, .int .i64 b.hx, .int .i64 b.hy]] w fun e w' => e = .returned (.agg #[.int .u64 (MWide.w0 r), .int .u64 (MWide.w1 r), .int .u64 (MWide.w2 r)]) ∧ Bel w w' := h ▸ refArea_calls b w hok
set_option maxHeartbeats 2000000 in
set_option maxRecDepth 100000 in
theorem growth_calls (a b : Bx) (w : World) (ha : a.ok) (hb : b.ok) : Calls Tryd.prog 45 #[.agg #[.bool a.no, .int .i64 a.lx, .int .i64 a.ly, .int .i64 a.hx, .int .i64 a.hy], .agg #[.bool b.no, .int .i64 b.lx, .int .i64 b.ly, .int .i64 b.hx, .int .i64 b.hy]] w fun e w' => e = .returned (.agg #[.int .u64 (MWide.w0 (MBox.growth a b)), .int .u64 (MWide.w1 (MBox.growth a b)), .int .u64 (MWide.w2 (MBox.growth a b))]) ∧ Bel w w' := by
  have HU := Lib.hid (fun w => union_calls a b w)
  have HAr := Lib.hid Area_is
  have hou := MBox.union_ok ha hb
  have hua := MBox.area_192 hou
  have haa := MBox.area_192 ha
  have hgr := MBox.growth_sub (a := a) (b := b)
  obtain ⟨un, hun⟩ : ∃ u, MBox.union a b = u := ⟨_, rfl⟩
  rw [hun] at HU hou hua hgr
  obtain ⟨gr, hgr2⟩ : ∃ u, MBox.growth a b = u := ⟨_, rfl⟩
  rw [hgr2] at hgr ⊢
  obtain ⟨ru, hru⟩ : ∃ u, MBox.area un = u := ⟨_, rfl⟩
  obtain ⟨ra, hra⟩ : ∃ u, MBox.area a = u := ⟨_, rfl⟩
  rw [hru] at hua hgr
  rw [hra] at haa hgr
  have HS := Lib.hid (fun w => Sub_calls ru ra w hua haa)
  rw [hgr] at HS
  obtain ⟨so, hso⟩ : ∃ u, subOk ru ra = u := ⟨_, rfl⟩
  rw [hso] at HS
  clear hb hun hgr hgr2 hua haa hso
  have A := ((Blk.new w #[.bool a.no, .int .i64 a.lx, .int .i64 a.ly, .int .i64 a.hx, .int .i64 a.hy] 52).alloc (.cells #[.bool b.no, .int .i64 b.lx, .int .i64 b.ly, .int .i64 b.hx, .int .i64 b.hy] 52)).alloc (.cells #[.int .u64 0, .int .u64 0, .int .u64 0] 26)
  have B := (Blk.new_at (W := (w.alloc (.cells #[.bool a.no, .int .i64 a.lx, .int .i64 a.ly, .int .i64 a.hx, .int .i64 a.hy] 52))) (g := w.heap.size + 1) (by simp) #[.bool b.no, .int .i64 b.lx, .int .i64 b.ly, .int .i64 b.hx, .int .i64 b.hy] 52).alloc (.cells #[.int .u64 0, .int .u64 0, .int .u64 0] 26)
  have R := Blk.new_at (W := ((w.alloc (.cells #[.bool a.no, .int .i64 a.lx, .int .i64 a.ly, .int .i64 a.hx, .int .i64 a.hy] 52)).alloc (.cells #[.bool b.no, .int .i64 b.lx, .int .i64 b.ly, .int .i64 b.hx, .int .i64 b.hy] 52))) (g := w.heap.size + 1 + 1) (by simp) #[.int .u64 0, .int .u64 0, .int .u64 0] 26
  have HB : Hid (Below w.heap.size w (((w.alloc (.cells #[.bool a.no, .int .i64 a.lx, .int .i64 a.ly, .int .i64 a.hx, .int .i64 a.hy] 52)).alloc (.cells #[.bool b.no, .int .i64 b.lx, .int .i64 b.ly, .int .i64 b.hx, .int .i64 b.hy] 52)).alloc (.cells #[.int .u64 0, .int .u64 0, .int .u64 0] 26))) := Lib.hid (by repeat (first | exact Below.refl _ _ | refine Below.drew ?_ | refine Below.alloc ?_ (by simp <;> omega) _))
  go_enter Tryd.func45, Tryd.ntmps45
  go_upto_region 1 with (fail)
  obtain ⟨W, hW⟩ : ∃ W, (((w.alloc (.cells #[.bool a.no, .int .i64 a.lx, .int .i64 a.ly, .int .i64 a.hx, .int .i64 a.hy] 52)).alloc (.cells #[.bool b.no, .int .i64 b.lx, .int .i64 b.ly, .int .i64 b.hx, .int .i64 b.hy] 52)).alloc (.cells #[.int .u64 0, .int .u64 0, .int .u64 0] 26)) = W := ⟨_, rfl⟩
  rw [hW] at A B R HB ⊢
  clear hW
  obtain ⟨a0, a1, a2, a3, a4⟩ := Blk.cells5 A
  obtain ⟨b0, b1, b2, b3, b4⟩ := Blk.cells5 B
  have HBk := Lib.hid (Bel.refl W)
  have hS0 := And.intro a0 (And.intro a1 (And.intro a2 (And.intro a3 (And.intro a4 (And.intro b0 (And.intro b1 (And.intro b2 (And.intro b3 (And.intro b4 (HBk.out))))))))))
  have hlt1 := Blk.lt A
  have hlt2 := Blk.lt B
  have hlt3 := Blk.lt R
  have hdr : W.drew.heap.size = W.heap.size := rfl
  go_cut [5] (fun p w' => ∃ g, p = .pointer (some ⟨g, 0, none⟩) ∧ Hid (W.heap.size ≤ g) ∧ Hid (Bel W w') ∧ Blk w' g #[.int .u64 (MWide.w0 gr), .int .u64 (MWide.w1 gr), .int .u64 (MWide.w2 gr)] 26)
  case first =>
    go_wp2_with fail
    go_region_held3 (fun w' => w'.cell? ⟨w.heap.size, 0, none⟩ = some (.bool a.no) ∧ w'.cell? ⟨w.heap.size, 1, none⟩ = some (.int .i64 a.lx) ∧ w'.cell? ⟨w.heap.size, 2, none⟩ = some (.int .i64 a.ly) ∧ w'.cell? ⟨w.heap.size, 3, none⟩ = some (.int .i64 a.hx) ∧ w'.cell? ⟨w.heap.size, 4, none⟩ = some (.int .i64 a.hy) ∧ w'.cell? ⟨w.heap.size + 1, 0, none⟩ = some (.bool b.no) ∧ w'.cell? ⟨w.heap.size + 1, 1, none⟩ = some (.int .i64 b.lx) ∧ w'.cell? ⟨w.heap.size + 1, 2, none⟩ = some (.int .i64 b.ly) ∧ w'.cell? ⟨w.heap.size + 1, 3, none⟩ = some (.int .i64 b.hx) ∧ w'.cell? ⟨w.heap.size + 1, 4, none⟩ = some (.int .i64 b.hy) ∧ Bel W w') (first | with_reducible assumption | with_reducible exact kb2 hb (by assumption) | with_reducible exact kb2 (Bel.drew _) hS0 | with_reducible exact kb2_re (by omega) (by omega) (by omega) (by assumption) | with_reducible exact kb2 ((Bel.refl _).alloc (Nat.le_refl _) _) (by assumption) | with_reducible exact kb2_set3 (by omega) (by omega) (by omega) (by assumption))
      (first
        | (go_at_call 41; refine (HU.out _).mono ?_; rintro e w' ⟨rfl, hb⟩; have hzz := hb.size; (first | (have O := Blk.bel O hb) | (have O := Blk.bel (Blk.new _ _ _) hb) | (have O := Blk.bel (Blk.drew (Blk.new _ _ _)) hb) | skip))
        | (go_at_call 44; refine (HAr.out _ _ _ (by assumption) (by assumption)).mono ?_; rintro e w' ⟨rfl, hb⟩; have hzz := hb.size; (first | (have O := Blk.bel O hb) | (have O := Blk.bel (Blk.new _ _ _) hb) | (have O := Blk.bel (Blk.drew (Blk.new _ _ _)) hb) | skip))
        | (go_at_call 36; refine (HS.out _).mono ?_; rintro e w' ⟨rfl, hb⟩; have hzz := hb.size; (first | (have O := Blk.bel O hb) | (have O := Blk.bel (Blk.new _ _ _) hb) | (have O := Blk.bel (Blk.drew (Blk.new _ _ _)) hb) | skip); (first | (obtain ⟨o0, o1, o2⟩ := Blk.cells3 O; have f0 := O.froz 0; have f1 := O.froz 1; have f2 := O.froz 2) | skip)))
    all_goals
      rename_i hheld
      go_wp2_with fail
      go_meet
      first
        | exact ⟨_, rfl, Lib.hid (by omega), Lib.hid hheld.2.2.2.2.2.2.2.2.2.2, Blk.set3 O⟩
        | exact ⟨_, rfl, Lib.hid (by omega), Lib.hid hheld.2.2.2.2.2.2.2.2.2.2, Blk.new _ _ _⟩
  clear hS0 hdr a0 a1 a2 a3 a4 b0 b1 b2 b3 b4
  obtain ⟨g1, rfl, HG1, HBl, T1⟩ := hcut
  have R2 := Blk.bel R HBl.out
  have HB2 := Lib.hid (bthen HB.out HBl.out)
  have hg1 : W.heap.size ≤ g1 := HG1.out
  clear R HB HG1 HBl
  obtain ⟨r0, r1, r2⟩ := Blk.cells3 R2
  have rf0 := R2.froz 0; have rf1 := R2.froz 1; have rf2 := R2.froz 2
  obtain ⟨t0, t1, t2⟩ := Blk.cells3 T1
  go_wp2
  refine bodyPost_ret (v := .agg #[.int .u64 (MWide.w0 gr), .int .u64 (MWide.w1 gr), .int .u64 (MWide.w2 gr)]) ?_ rfl ⟨rfl, below_set3 HB2.out (by omega) _ _ _⟩
  obtain ⟨q0, q1, q2⟩ := Blk.cells3 (Blk.set3 R2 (x' := .int .u64 (MWide.w0 gr)) (y' := .int .u64 (MWide.w1 gr)) (z' := .int .u64 (MWide.w2 gr)))
  simp [results, Tryd.results45, go_sem, q0, q1, q2]
set_option maxHeartbeats 2000000 in
set_option maxRecDepth 100000 in
theorem refGrowth_calls (a b : Bx) (w : World) (ha : a.ok) (hb : b.ok) : Calls Tryd.prog 56 #[.agg #[.bool a.no, .int .i64 a.lx, .int .i64 a.ly, .int .i64 a.hx, .int .i64 a.hy], .agg #[.bool b.no, .int .i64 b.lx, .int .i64 b.ly, .int .i64 b.hx, .int .i64 b.hy]] w fun e w' => e = .returned (.agg #[.int .u64 (MWide.w0 (MBox.growth a b)), .int .u64 (MWide.w1 (MBox.growth a b)), .int .u64 (MWide.w2 (MBox.growth a b))]) ∧ Bel w w' := by
  have HU := Lib.hid (fun w => refUnion_calls a b w)
  have HAr := Lib.hid refArea_is
  have hou := MBox.union_ok ha hb
  have hua := MBox.area_192 hou
  have haa := MBox.area_192 ha
  have hgr := MBox.growth_sub (a := a) (b := b)
  obtain ⟨un, hun⟩ : ∃ u, MBox.union a b = u := ⟨_, rfl⟩
  rw [hun] at HU hou hua hgr
  obtain ⟨gr, hgr2⟩ : ∃ u, MBox.growth a b = u := ⟨_, rfl⟩
  rw [hgr2] at hgr ⊢
  obtain ⟨ru, hru⟩ : ∃ u, MBox.area un = u := ⟨_, rfl⟩
  obtain ⟨ra, hra⟩ : ∃ u, MBox.area a = u := ⟨_, rfl⟩
  rw [hru] at hua hgr
  rw [hra] at haa hgr
  have HS := Lib.hid (fun w => refSub_calls ru ra w hua haa)
  rw [hgr] at HS
  obtain ⟨so, hso⟩ : ∃ u, subOk ru ra = u := ⟨_, rfl⟩
  rw [hso] at HS
  clear hb hun hgr hgr2 hua haa hso
  have A := ((Blk.new w #[.bool a.no, .int .i64 a.lx, .int .i64 a.ly, .int .i64 a.hx, .int .i64 a.hy] 52).alloc (.cells #[.bool b.no, .int .i64 b.lx, .int .i64 b.ly, .int .i64 b.hx, .int .i64 b.hy] 52)).alloc (.cells #[.int .u64 0, .int .u64 0, .int .u64 0] 24)
  have B := (Blk.new_at (W := (w.alloc (.cells #[.bool a.no, .int .i64 a.lx, .int .i64 a.ly, .int .i64 a.hx, .int .i64 a.hy] 52))) (g := w.heap.size + 1) (by simp) #[.bool b.no, .int .i64 b.lx, .int .i64 b.ly, .int .i64 b.hx, .int .i64 b.hy] 52).alloc (.cells #[.int .u64 0, .int .u64 0, .int .u64 0] 24)
  have R := Blk.new_at (W := ((w.alloc (.cells #[.bool a.no, .int .i64 a.lx, .int .i64 a.ly, .int .i64 a.hx, .int .i64 a.hy] 52)).alloc (.cells #[.bool b.no, .int .i64 b.lx, .int .i64 b.ly, .int .i64 b.hx, .int .i64 b.hy] 52))) (g := w.heap.size + 1 + 1) (by simp) #[.int .u64 0, .int .u64 0, .int .u64 0] 24
  have HB : Hid (Below w.heap.size w (((w.alloc (.cells #[.bool a.no, .int .i64 a.lx, .int .i64 a.ly, .int .i64 a.hx, .int .i64 a.hy] 52)).alloc (.cells #[.bool b.no, .int .i64 b.lx, .int .i64 b.ly, .int .i64 b.hx, .int .i64 b.hy] 52)).alloc (.cells #[.int .u64 0, .int .u64 0, .int .u64 0] 24))) := Lib.hid (by repeat (first | exact Below.refl _ _ | refine Below.drew ?_ | refine Below.alloc ?_ (by simp <;> omega) _))
  go_enter Tryd.func56, Tryd.ntmps56
  go_upto_region 1 with (fail)
  obtain ⟨W, hW⟩ : ∃ W, (((w.alloc (.cells #[.bool a.no, .int .i64 a.lx, .int .i64 a.ly, .int .i64 a.hx, .int .i64 a.hy] 52)).alloc (.cells #[.bool b.no, .int .i64 b.lx, .int .i64 b.ly, .int .i64 b.hx, .int .i64 b.hy] 52)).alloc (.cells #[.int .u64 0, .int .u64 0, .int .u64 0] 24)) = W := ⟨_, rfl⟩
  rw [hW] at A B R HB ⊢
  clear hW
  obtain ⟨a0, a1, a2, a3, a4⟩ := Blk.cells5 A
  obtain ⟨b0, b1, b2, b3, b4⟩ := Blk.cells5 B
  have HBk := Lib.hid (Bel.refl W)
  have hS0 := And.intro a0 (And.intro a1 (And.intro a2 (And.intro a3 (And.intro a4 (And.intro b0 (And.intro b1 (And.intro b2 (And.intro b3 (And.intro b4 (HBk.out))))))))))
  have hlt1 := Blk.lt A
  have hlt2 := Blk.lt B
  have hlt3 := Blk.lt R
  have hdr : W.drew.heap.size = W.heap.size := rfl
  go_cut [5] (fun p w' => ∃ g, p = .pointer (some ⟨g, 0, none⟩) ∧ Hid (W.heap.size ≤ g) ∧ Hid (Bel W w') ∧ Blk w' g #[.int .u64 (MWide.w0 gr), .int .u64 (MWide.w1 gr), .int .u64 (MWide.w2 gr)] 24)
  case first =>
    go_wp2_with fail
    go_region_held3 (fun w' => w'.cell? ⟨w.heap.size, 0, none⟩ = some (.bool a.no) ∧ w'.cell? ⟨w.heap.size, 1, none⟩ = some (.int .i64 a.lx) ∧ w'.cell? ⟨w.heap.size, 2, none⟩ = some (.int .i64 a.ly) ∧ w'.cell? ⟨w.heap.size, 3, none⟩ = some (.int .i64 a.hx) ∧ w'.cell? ⟨w.heap.size, 4, none⟩ = some (.int .i64 a.hy) ∧ w'.cell? ⟨w.heap.size + 1, 0, none⟩ = some (.bool b.no) ∧ w'.cell? ⟨w.heap.size + 1, 1, none⟩ = some (.int .i64 b.lx) ∧ w'.cell? ⟨w.heap.size + 1, 2, none⟩ = some (.int .i64 b.ly) ∧ w'.cell? ⟨w.heap.size + 1, 3, none⟩ = some (.int .i64 b.hx) ∧ w'.cell? ⟨w.heap.size + 1, 4, none⟩ = some (.int .i64 b.hy) ∧ Bel W w') (first | with_reducible assumption | with_reducible exact kb2 hb (by assumption) | with_reducible exact kb2 (Bel.drew _) hS0 | with_reducible exact kb2_re (by omega) (by omega) (by omega) (by assumption) | with_reducible exact kb2 ((Bel.refl _).alloc (Nat.le_refl _) _) (by assumption) | with_reducible exact kb2_set3 (by omega) (by omega) (by omega) (by assumption))
      (first
        | (go_at_call 50; refine (HU.out _).mono ?_; rintro e w' ⟨rfl, hb⟩; have hzz := hb.size; (first | (have O := Blk.bel O hb) | (have O := Blk.bel (Blk.new _ _ _) hb) | (have O := Blk.bel (Blk.drew (Blk.new _ _ _)) hb) | skip))
        | (go_at_call 55; refine (HAr.out _ _ _ (by assumption) (by assumption)).mono ?_; rintro e w' ⟨rfl, hb⟩; have hzz := hb.size; (first | (have O := Blk.bel O hb) | (have O := Blk.bel (Blk.new _ _ _) hb) | (have O := Blk.bel (Blk.drew (Blk.new _ _ _)) hb) | skip))
        | (go_at_call 37; refine (HS.out _).mono ?_; rintro e w' ⟨rfl, hb⟩; have hzz := hb.size; (first | (have O := Blk.bel O hb) | (have O := Blk.bel (Blk.new _ _ _) hb) | (have O := Blk.bel (Blk.drew (Blk.new _ _ _)) hb) | skip); (first | (obtain ⟨o0, o1, o2⟩ := Blk.cells3 O; have f0 := O.froz 0; have f1 := O.froz 1; have f2 := O.froz 2) | skip)))
    all_goals
      rename_i hheld
      go_wp2_with fail
      go_meet
      first
        | exact ⟨_, rfl, Lib.hid (by omega), Lib.hid hheld.2.2.2.2.2.2.2.2.2.2, Blk.set3 O⟩
        | exact ⟨_, rfl, Lib.hid (by omega), Lib.hid hheld.2.2.2.2.2.2.2.2.2.2, Blk.new _ _ _⟩
  clear hS0 hdr a0 a1 a2 a3 a4 b0 b1 b2 b3 b4
  obtain ⟨g1, rfl, HG1, HBl, T1⟩ := hcut
  have R2 := Blk.bel R HBl.out
  have HB2 := Lib.hid (bthen HB.out HBl.out)
  have hg1 : W.heap.size ≤ g1 := HG1.out
  clear R HB HG1 HBl
  obtain ⟨r0, r1, r2⟩ := Blk.cells3 R2
  have rf0 := R2.froz 0; have rf1 := R2.froz 1; have rf2 := R2.froz 2
  obtain ⟨t0, t1, t2⟩ := Blk.cells3 T1
  go_wp2
  refine bodyPost_ret (v := .agg #[.int .u64 (MWide.w0 gr), .int .u64 (MWide.w1 gr), .int .u64 (MWide.w2 gr)]) ?_ rfl ⟨rfl, below_set3 HB2.out (by omega) _ _ _⟩
  obtain ⟨q0, q1, q2⟩ := Blk.cells3 (Blk.set3 R2 (x' := .int .u64 (MWide.w0 gr)) (y' := .int .u64 (MWide.w1 gr)) (z' := .int .u64 (MWide.w2 gr)))
  simp [results, Tryd.results56, go_sem, q0, q1, q2]

end Go.Proofs.YtakkifedcbhgfaaDoor.K
namespace Go.Proofs.YtakkifedcbhgfaaDoor.K
open Go Go.RowKit Go.Proofs.YtakkifedcbhgfaaDoorW.PrintWords Go.Proofs.YtakkifedcbhgfaaDoorW.PrintLast Go.Proofs.YtakkifedcbhgfaaDoorW.PrintMore
set_option linter.unusedVariables false
set_option linter.unusedSimpArgs false
open Go.Proofs.YtakkifedcbhgfaaDoor.MWide (W64 U192 addV subV addOk subOk cmpV)
open Go.Proofs.YtakkifedcbhgfaaDoor.MBox (Bx I64)
set_option maxHeartbeats 2000000 in
set_option maxRecDepth 100000 in
theorem waste_calls (a b : Bx) (w : World) (ha : a.ok) (hb : b.ok) : Calls Tryd.prog 46 #[.agg #[.bool a.no, .int .i64 a.lx, .int .i64 a.ly, .int .i64 a.hx, .int .i64 a.hy], .agg #[.bool b.no, .int .i64 b.lx, .int .i64 b.ly, .int .i64 b.hx, .int .i64 b.hy]] w fun e w' => e = .returned (.tuple #[.agg #[.int .u64 (MWide.w0 (MBox.waste a b)), .int .u64 (MWide.w1 (MBox.waste a b)), .int .u64 (MWide.w2 (MBox.waste a b))], .bool (MBox.wasteN a b)]) ∧ Bel w w' := by
  have HU := Lib.hid (fun w => union_calls a b w)
  have HAr := Lib.hid Area_is
  have hou := MBox.union_ok ha hb
  have hua := MBox.area_192 hou
  have haa := MBox.area_192 ha
  have hab := MBox.area_192 hb
  obtain ⟨hbu, hbv⟩ := MBox.both_u ha hb
  have hwn : MBox.wasteN a b = decide (MBox.area (MBox.union a b) < MBox.area a + MBox.area b) := rfl
  have hwv : MBox.waste a b = (if MBox.wasteN a b = true then MBox.area a + MBox.area b - MBox.area (MBox.union a b) else MBox.area (MBox.union a b) - (MBox.area a + MBox.area b)) := rfl
  obtain ⟨un, hun⟩ : ∃ u, MBox.union a b = u := ⟨_, rfl⟩
  rw [hun] at HU hou hua hwn hwv
  obtain ⟨ru, hru⟩ : ∃ u, MBox.area un = u := ⟨_, rfl⟩
  obtain ⟨ra, hra⟩ : ∃ u, MBox.area a = u := ⟨_, rfl⟩
  obtain ⟨rb, hrb⟩ : ∃ u, MBox.area b = u := ⟨_, rfl⟩
  rw [hru] at hua hwn hwv
  rw [hra] at haa hwn hwv hbu hbv
  rw [hrb] at hab hwn hwv hbu hbv
  have HA := Lib.hid (fun w => Add_calls ra rb w haa hab)
  rw [hbv] at HA
  obtain ⟨ao, hao⟩ : ∃ u, addOk ra rb = u := ⟨_, rfl⟩
  rw [hao] at HA
  clear haa hab hbv hao
  obtain ⟨bo, hbo⟩ : ∃ u, ra + rb = u := ⟨_, rfl⟩
  rw [hbo] at HA hbu hwn hwv
  clear hbo
  have HS := Lib.hid (fun w => Sub_calls ru bo w hua hbu)
  have HS2 := Lib.hid (fun w => Sub_calls bo ru w hbu hua)
  clear hun hua hbu
  by_cases hlt : ru < bo
  · have hwn2 : MBox.wasteN a b = true := by rw [hwn]; exact decide_eq_true hlt
    have hwv2 : MBox.waste a b = bo - ru := by rw [hwv, hwn2]; rfl
    rw [hwn2, hwv2]
    have hs1 : subOk ru bo = false := by unfold subOk; exact decide_eq_false (by omega)
    have hs2 : subOk bo ru = true := by unfold subOk; exact decide_eq_true (by omega)
    have hv1 : subV ru bo = 0 := by unfold subV; rw [if_neg (by rw [hs1]; decide)]
    have hv2 : subV bo ru = bo - ru := by unfold subV; rw [if_pos hs2]
    rw [hs1, hv1] at HS
    rw [hs2, hv2] at HS2
    obtain ⟨rs, hrs⟩ : ∃ u, bo - ru = u := ⟨_, rfl⟩
    rw [hrs] at HS2 ⊢
    clear hwn2 hwv2 hrs hs1 hv1 hs2 hv2 hlt hwn hwv
    have A := ((Blk.new w #[.bool a.no, .int .i64 a.lx, .int .i64 a.ly, .int .i64 a.hx, .int .i64 a.hy] 52).alloc (.cells #[.bool b.no, .int .i64 b.lx, .int .i64 b.ly, .int .i64 b.hx, .int .i64 b.hy] 52)).alloc (.cells #[.int .u64 0, .int .u64 0, .int .u64 0] 26)
    have B := (Blk.new_at (W := (w.alloc (.cells #[.bool a.no, .int .i64 a.lx, .int .i64 a.ly, .int .i64 a.hx, .int .i64 a.hy] 52))) (g := w.heap.size + 1) (by simp) #[.bool b.no, .int .i64 b.lx, .int .i64 b.ly, .int .i64 b.hx, .int .i64 b.hy] 52).alloc (.cells #[.int .u64 0, .int .u64 0, .int .u64 0] 26)
    have R := Blk.new_at (W := ((w.alloc (.cells #[.bool a.no, .int .i64 a.lx, .int .i64 a.ly, .int .i64 a.hx, .int .i64 a.hy] 52)).alloc (.cells #[.bool b.no, .int .i64 b.lx, .int .i64 b.ly, .int .i64 b.hx, .int .i64 b.hy] 52))) (g := w.heap.size + 1 + 1) (by simp) #[.int .u64 0, .int .u64 0, .int .u64 0] 26
    have HB : Hid (Below w.heap.size w (((w.alloc (.cells #[.bool a.no, .int .i64 a.lx, .int .i64 a.ly, .int .i64 a.hx, .int .i64 a.hy] 52)).alloc (.cells #[.bool b.no, .int .i64 b.lx, .int .i64 b.ly, .int .i64 b.hx, .int .i64 b.hy] 52)).alloc (.cells #[.int .u64 0, .int .u64 0, .int .u64 0] 26))) := Lib.hid (by repeat (first | exact Below.refl _ _ | refine Below.drew ?_ | refine Below.alloc ?_ (by simp <;> omega) _))
    go_enter Tryd.func46, Tryd.ntmps46
    go_upto_region 1 with (fail)
    obtain ⟨W, hW⟩ : ∃ W, (((w.alloc (.cells #[.bool a.no, .int .i64 a.lx, .int .i64 a.ly, .int .i64 a.hx, .int .i64 a.hy] 52)).alloc (.cells #[.bool b.no, .int .i64 b.lx, .int .i64 b.ly, .int .i64 b.hx, .int .i64 b.hy] 52)).alloc (.cells #[.int .u64 0, .int .u64 0, .int .u64 0] 26)) = W := ⟨_, rfl⟩
    rw [hW] at A B R HB ⊢
    clear hW
    obtain ⟨a0, a1, a2, a3, a4⟩ := Blk.cells5 A
    obtain ⟨b0, b1, b2, b3, b4⟩ := Blk.cells5 B
    have HBk := Lib.hid (Bel.refl W)
    have hS0 := And.intro a0 (And.intro a1 (And.intro a2 (And.intro a3 (And.intro a4 (And.intro b0 (And.intro b1 (And.intro b2 (And.intro b3 (And.intro b4 (HBk.out))))))))))
    have hlt1 := Blk.lt A
    have hlt2 := Blk.lt B
    have hlt3 := Blk.lt R
    have hdr : W.drew.heap.size = W.heap.size := rfl
    go_cut [6] (fun p w' => ∃ g, p = .pointer (some ⟨g, 0, none⟩) ∧ Hid (W.heap.size ≤ g) ∧ Hid (Bel W w') ∧ Blk w' g #[.int .u64 (MWide.w0 bo), .int .u64 (MWide.w1 bo), .int .u64 (MWide.w2 bo)] 26)
    case first =>
      go_wp2_with fail
      go_region_held3 (fun w' => w'.cell? ⟨w.heap.size, 0, none⟩ = some (.bool a.no) ∧ w'.cell? ⟨w.heap.size, 1, none⟩ = some (.int .i64 a.lx) ∧ w'.cell? ⟨w.heap.size, 2, none⟩ = some (.int .i64 a.ly) ∧ w'.cell? ⟨w.heap.size, 3, none⟩ = some (.int .i64 a.hx) ∧ w'.cell? ⟨w.heap.size, 4, none⟩ = some (.int .i64 a.hy) ∧ w'.cell? ⟨w.heap.size + 1, 0, none⟩ = some (.bool b.no) ∧ w'.cell? ⟨w.heap.size + 1, 1, none⟩ = some (.int .i64 b.lx) ∧ w'.cell? ⟨w.heap.size + 1, 2, none⟩ = some (.int .i64 b.ly) ∧ w'.cell? ⟨w.heap.size + 1, 3, none⟩ = some (.int .i64 b.hx) ∧ w'.cell? ⟨w.heap.size + 1, 4, none⟩ = some (.int .i64 b.hy) ∧ Bel W w') (first | with_reducible assumption | with_reducible exact kb2 hb (by assumption) | with_reducible exact kb2 (Bel.drew _) hS0 | with_reducible exact kb2_re (by omega) (by omega) (by omega) (by assumption) | with_reducible exact kb2 ((Bel.refl _).alloc (Nat.le_refl _) _) (by assumption) | with_reducible exact kb2_set3 (by omega) (by omega) (by omega) (by assumption))
        (first
          | (go_at_call 44; refine (HAr.out _ _ _ (by assumption) (by assumption)).mono ?_; rintro e w' ⟨rfl, hb⟩; have hzz := hb.size; (first | (have O := Blk.bel O hb) | (have O := Blk.bel (Blk.new _ _ _) hb) | (have O := Blk.bel (Blk.drew (Blk.new _ _ _)) hb) | skip))
          | (go_at_call 24; refine (HA.out _).mono ?_; rintro e w' ⟨rfl, hb⟩; have hzz := hb.size; (first | (have O := Blk.bel O hb) | (have O := Blk.bel (Blk.new _ _ _) hb) | (have O := Blk.bel (Blk.drew (Blk.new _ _ _)) hb) | skip); (first | (obtain ⟨o0, o1, o2⟩ := Blk.cells3 O; have f0 := O.froz 0; have f1 := O.froz 1; have f2 := O.froz 2) | skip)))
      all_goals
        rename_i hheld
        go_wp2_with fail
        go_meet
        first
          | exact ⟨_, rfl, Lib.hid (by omega), Lib.hid hheld.2.2.2.2.2.2.2.2.2.2, Blk.set3 O⟩
          | exact ⟨_, rfl, Lib.hid (by omega), Lib.hid hheld.2.2.2.2.2.2.2.2.2.2, Blk.new _ _ _⟩
    clear hS0 hdr a0 a1 a2 a3 a4 b0 b1 b2 b3 b4
    obtain ⟨g1, rfl, HG1, HBl, T1⟩ := hcut
    have A' := Blk.bel A HBl.out
    have B' := Blk.bel B HBl.out
    have R' := Blk.bel R HBl.out
    have HB' := Lib.hid (bthen HB.out HBl.out)
    clear A B R HB
    have A := A'
    clear A'
    have B := B'
    clear B'
    have R := R'
    clear R'
    have HB := HB'
    clear HB'
    have hg1 : W.heap.size ≤ g1 := HG1.out
    clear HG1 HBl
    obtain ⟨a0, a1, a2, a3, a4⟩ := Blk.cells5 A
    obtain ⟨b0, b1, b2, b3, b4⟩ := Blk.cells5 B
    go_wp2_with fail
    refine (HU.out _).mono ?_
    rintro e w2 ⟨rfl, hb2⟩
    have R' := Blk.bel R hb2
    have T1' := Blk.bel T1 hb2
    have HB' := Lib.hid (bthen HB.out hb2)
    clear R T1 HB hb2
    have R := R'
    clear R'
    have T1 := T1'
    clear T1'
    have HB := HB'
    clear HB'
    clear A B a0 a1 a2 a3 a4 b0 b1 b2 b3 b4
    go_wp2_with fail
    refine (HAr.out _ _ _ (by assumption) (by assumption)).mono ?_
    rintro e w3 ⟨rfl, hb3⟩
    have R' := Blk.bel R hb3
    have T1' := Blk.bel T1 hb3
    have HB' := Lib.hid (bthen HB.out hb3)
    clear R T1 HB hb3
    have R := R'
    clear R'
    have T1 := T1'
    clear T1'
    have HB := HB'
    clear HB'
    go_upto_region 3 with (fail)
    have T2 := Blk.new w3 #[.int .u64 (MWide.w0 ru), .int .u64 (MWide.w1 ru), .int .u64 (MWide.w2 ru)] 26
    have R' := Blk.alloc R (.cells #[.int .u64 (MWide.w0 ru), .int .u64 (MWide.w1 ru), .int .u64 (MWide.w2 ru)] 26)
    have T1' := Blk.alloc T1 (.cells #[.int .u64 (MWide.w0 ru), .int .u64 (MWide.w1 ru), .int .u64 (MWide.w2 ru)] 26)
    have HB' := Lib.hid (HB.out.alloc HB.out.size (.cells #[.int .u64 (MWide.w0 ru), .int .u64 (MWide.w1 ru), .int .u64 (MWide.w2 ru)] 26))
    obtain ⟨W4, hW⟩ : ∃ W, w3.alloc (.cells #[.int .u64 (MWide.w0 ru), .int .u64 (MWide.w1 ru), .int .u64 (MWide.w2 ru)] 26) = W := ⟨_, rfl⟩
    rw [hW] at T2 R' T1' HB' ⊢
    have g20 := HB.out.size
    obtain ⟨g2, hg⟩ : ∃ g, w3.heap.size = g := ⟨_, rfl⟩
    rw [hg] at T2 g20 ⊢
    clear hW hg R T1 HB
    have R := R'
    clear R'
    have T1 := T1'
    clear T1'
    have HB := HB'
    clear HB'
    obtain ⟨t0, t1, t2⟩ := Blk.cells3 T1
    obtain ⟨u0, u1, u2⟩ := Blk.cells3 T2
    go_wp2_with fail
    refine (HS.out _).mono ?_
    rintro e w5 ⟨rfl, hb5⟩
    clear t0 t1 t2 u0 u1 u2
    have R' := Blk.bel R hb5
    have T1' := Blk.bel T1 hb5
    have T2' := Blk.bel T2 hb5
    have HB' := Lib.hid (bthen HB.out hb5)
    clear R T1 T2 HB hb5
    have R := R'
    clear R'
    have T1 := T1'
    clear T1'
    have T2 := T2'
    clear T2'
    have HB := HB'
    clear HB'
    go_upto_region 6 with (fail)
    have T3 := Blk.new w5 #[.int .u64 (MWide.w0 0), .int .u64 (MWide.w1 0), .int .u64 (MWide.w2 0)] 26
    have R' := Blk.alloc R (.cells #[.int .u64 (MWide.w0 0), .int .u64 (MWide.w1 0), .int .u64 (MWide.w2 0)] 26)
    have T1' := Blk.alloc T1 (.cells #[.int .u64 (MWide.w0 0), .int .u64 (MWide.w1 0), .int .u64 (MWide.w2 0)] 26)
    have T2' := Blk.alloc T2 (.cells #[.int .u64 (MWide.w0 0), .int .u64 (MWide.w1 0), .int .u64 (MWide.w2 0)] 26)
    have HB' := Lib.hid (HB.out.alloc HB.out.size (.cells #[.int .u64 (MWide.w0 0), .int .u64 (MWide.w1 0), .int .u64 (MWide.w2 0)] 26))
    obtain ⟨W6, hW⟩ : ∃ W, w5.alloc (.cells #[.int .u64 (MWide.w0 0), .int .u64 (MWide.w1 0), .int .u64 (MWide.w2 0)] 26) = W := ⟨_, rfl⟩
    rw [hW] at T3 R' T1' T2' HB' ⊢
    have g30 := HB.out.size
    obtain ⟨g3, hg⟩ : ∃ g, w5.heap.size = g := ⟨_, rfl⟩
    rw [hg] at T3 g30 ⊢
    clear hW hg R T1 T2 HB
    have R := R'
    clear R'
    have T1 := T1'
    clear T1'
    have T2 := T2'
    clear T2'
    have HB := HB'
    clear HB'
    obtain ⟨t0, t1, t2⟩ := Blk.cells3 T1
    obtain ⟨u0, u1, u2⟩ := Blk.cells3 T2
    go_wp2_with fail
    refine (HS2.out _).mono ?_
    rintro e w7 ⟨rfl, hb7⟩
    clear t0 t1 t2 u0 u1 u2 T1 T2 T3
    have R' := Blk.bel R hb7
    have HB' := Lib.hid (bthen HB.out hb7)
    clear R HB hb7
    have R := R'
    clear R'
    have HB := HB'
    clear HB'
    go_upto_region 7 with (fail)
    have T9 := Blk.new w7 #[.int .u64 (MWide.w0 rs), .int .u64 (MWide.w1 rs), .int .u64 (MWide.w2 rs)] 26
    have R' := Blk.alloc R (.cells #[.int .u64 (MWide.w0 rs), .int .u64 (MWide.w1 rs), .int .u64 (MWide.w2 rs)] 26)
    have HB' := Lib.hid (HB.out.alloc HB.out.size (.cells #[.int .u64 (MWide.w0 rs), .int .u64 (MWide.w1 rs), .int .u64 (MWide.w2 rs)] 26))
    obtain ⟨W9, hW⟩ : ∃ W, w7.alloc (.cells #[.int .u64 (MWide.w0 rs), .int .u64 (MWide.w1 rs), .int .u64 (MWide.w2 rs)] 26) = W := ⟨_, rfl⟩
    rw [hW] at T9 R' HB' ⊢
    have g90 := HB.out.size
    obtain ⟨g9, hg⟩ : ∃ g, w7.heap.size = g := ⟨_, rfl⟩
    rw [hg] at T9 g90 ⊢
    clear hW hg R HB
    have R := R'
    clear R'
    have HB := HB'
    clear HB'
    obtain ⟨r0, r1, r2⟩ := Blk.cells3 R
    have rf0 := R.froz 0; have rf1 := R.froz 1; have rf2 := R.froz 2
    obtain ⟨t0, t1, t2⟩ := Blk.cells3 T9
    go_wp2_with fail
    refine bodyPost_ret (v := .tuple #[.agg #[.int .u64 (MWide.w0 rs), .int .u64 (MWide.w1 rs), .int .u64 (MWide.w2 rs)], .bool true]) ?_ rfl ⟨rfl, below_set3 HB.out (by omega) _ _ _⟩
    obtain ⟨q0, q1, q2⟩ := Blk.cells3 (Blk.set3 R (x' := .int .u64 (MWide.w0 rs)) (y' := .int .u64 (MWide.w1 rs)) (z' := .int .u64 (MWide.w2 rs)))
    simp [results, Tryd.results46, go_sem, q0, q1, q2]
  
  · have hwn2 : MBox.wasteN a b = false := by rw [hwn]; exact decide_eq_false hlt
    have hwv2 : MBox.waste a b = ru - bo := by rw [hwv, hwn2]; rfl
    rw [hwn2, hwv2]
    have hs1 : subOk ru bo = true := by unfold subOk; exact decide_eq_true (by omega)
    have hv1 : subV ru bo = ru - bo := by unfold subV; rw [if_pos hs1]
    rw [hs1, hv1] at HS
    obtain ⟨rs, hrs⟩ : ∃ u, ru - bo = u := ⟨_, rfl⟩
    rw [hrs] at HS ⊢
    clear hwn2 hwv2 hrs hs1 hv1 hlt hwn hwv
    have A := ((Blk.new w #[.bool a.no, .int .i64 a.lx, .int .i64 a.ly, .int .i64 a.hx, .int .i64 a.hy] 52).alloc (.cells #[.bool b.no, .int .i64 b.lx, .int .i64 b.ly, .int .i64 b.hx, .int .i64 b.hy] 52)).alloc (.cells #[.int .u64 0, .int .u64 0, .int .u64 0] 26)
    have B := (Blk.new_at (W := (w.alloc (.cells #[.bool a.no, .int .i64 a.lx, .int .i64 a.ly, .int .i64 a.hx, .int .i64 a.hy] 52))) (g := w.heap.size + 1) (by simp) #[.bool b.no, .int .i64 b.lx, .int .i64 b.ly, .int .i64 b.hx, .int .i64 b.hy] 52).alloc (.cells #[.int .u64 0, .int .u64 0, .int .u64 0] 26)
    have R := Blk.new_at (W := ((w.alloc (.cells #[.bool a.no, .int .i64 a.lx, .int .i64 a.ly, .int .i64 a.hx, .int .i64 a.hy] 52)).alloc (.cells #[.bool b.no, .int .i64 b.lx, .int .i64 b.ly, .int .i64 b.hx, .int .i64 b.hy] 52))) (g := w.heap.size + 1 + 1) (by simp) #[.int .u64 0, .int .u64 0, .int .u64 0] 26
    have HB : Hid (Below w.heap.size w (((w.alloc (.cells #[.bool a.no, .int .i64 a.lx, .int .i64 a.ly, .int .i64 a.hx, .int .i64 a.hy] 52)).alloc (.cells #[.bool b.no, .int .i64 b.lx, .int .i64 b.ly, .int .i64 b.hx, .int .i64 b.hy] 52)).alloc (.cells #[.int .u64 0, .int .u64 0, .int .u64 0] 26))) := Lib.hid (by repeat (first | exact Below.refl _ _ | refine Below.drew ?_ | refine Below.alloc ?_ (by simp <;> omega) _))
    go_enter Tryd.func46, Tryd.ntmps46
    go_upto_region 1 with (fail)
    obtain ⟨W, hW⟩ : ∃ W, (((w.alloc (.cells #[.bool a.no, .int .i64 a.lx, .int .i64 a.ly, .int .i64 a.hx, .int .i64 a.hy] 52)).alloc (.cells #[.bool b.no, .int .i64 b.lx, .int .i64 b.ly, .int .i64 b.hx, .int .i64 b.hy] 52)).alloc (.cells #[.int .u64 0, .int .u64 0, .int .u64 0] 26)) = W := ⟨_, rfl⟩
    rw [hW] at A B R HB ⊢
    clear hW
    obtain ⟨a0, a1, a2, a3, a4⟩ := Blk.cells5 A
    obtain ⟨b0, b1, b2, b3, b4⟩ := Blk.cells5 B
    have HBk := Lib.hid (Bel.refl W)
    have hS0 := And.intro a0 (And.intro a1 (And.intro a2 (And.intro a3 (And.intro a4 (And.intro b0 (And.intro b1 (And.intro b2 (And.intro b3 (And.intro b4 (HBk.out))))))))))
    have hlt1 := Blk.lt A
    have hlt2 := Blk.lt B
    have hlt3 := Blk.lt R
    have hdr : W.drew.heap.size = W.heap.size := rfl
    go_cut [6] (fun p w' => ∃ g, p = .pointer (some ⟨g, 0, none⟩) ∧ Hid (W.heap.size ≤ g) ∧ Hid (Bel W w') ∧ Blk w' g #[.int .u64 (MWide.w0 bo), .int .u64 (MWide.w1 bo), .int .u64 (MWide.w2 bo)] 26)
    case first =>
      go_wp2_with fail
      go_region_held3 (fun w' => w'.cell? ⟨w.heap.size, 0, none⟩ = some (.bool a.no) ∧ w'.cell? ⟨w.heap.size, 1, none⟩ = some (.int .i64 a.lx) ∧ w'.cell? ⟨w.heap.size, 2, none⟩ = some (.int .i64 a.ly) ∧ w'.cell? ⟨w.heap.size, 3, none⟩ = some (.int .i64 a.hx) ∧ w'.cell? ⟨w.heap.size, 4, none⟩ = some (.int .i64 a.hy) ∧ w'.cell? ⟨w.heap.size + 1, 0, none⟩ = some (.bool b.no) ∧ w'.cell? ⟨w.heap.size + 1, 1, none⟩ = some (.int .i64 b.lx) ∧ w'.cell? ⟨w.heap.size + 1, 2, none⟩ = some (.int .i64 b.ly) ∧ w'.cell? ⟨w.heap.size + 1, 3, none⟩ = some (.int .i64 b.hx) ∧ w'.cell? ⟨w.heap.size + 1, 4, none⟩ = some (.int .i64 b.hy) ∧ Bel W w') (first | with_reducible assumption | with_reducible exact kb2 hb (by assumption) | with_reducible exact kb2 (Bel.drew _) hS0 | with_reducible exact kb2_re (by omega) (by omega) (by omega) (by assumption) | with_reducible exact kb2 ((Bel.refl _).alloc (Nat.le_refl _) _) (by assumption) | with_reducible exact kb2_set3 (by omega) (by omega) (by omega) (by assumption))
        (first
          | (go_at_call 44; refine (HAr.out _ _ _ (by assumption) (by assumption)).mono ?_; rintro e w' ⟨rfl, hb⟩; have hzz := hb.size; (first | (have O := Blk.bel O hb) | (have O := Blk.bel (Blk.new _ _ _) hb) | (have O := Blk.bel (Blk.drew (Blk.new _ _ _)) hb) | skip))
          | (go_at_call 24; refine (HA.out _).mono ?_; rintro e w' ⟨rfl, hb⟩; have hzz := hb.size; (first | (have O := Blk.bel O hb) | (have O := Blk.bel (Blk.new _ _ _) hb) | (have O := Blk.bel (Blk.drew (Blk.new _ _ _)) hb) | skip); (first | (obtain ⟨o0, o1, o2⟩ := Blk.cells3 O; have f0 := O.froz 0; have f1 := O.froz 1; have f2 := O.froz 2) | skip)))
      all_goals
        rename_i hheld
        go_wp2_with fail
        go_meet
        first
          | exact ⟨_, rfl, Lib.hid (by omega), Lib.hid hheld.2.2.2.2.2.2.2.2.2.2, Blk.set3 O⟩
          | exact ⟨_, rfl, Lib.hid (by omega), Lib.hid hheld.2.2.2.2.2.2.2.2.2.2, Blk.new _ _ _⟩
    clear hS0 hdr a0 a1 a2 a3 a4 b0 b1 b2 b3 b4
    obtain ⟨g1, rfl, HG1, HBl, T1⟩ := hcut
    have A' := Blk.bel A HBl.out
    have B' := Blk.bel B HBl.out
    have R' := Blk.bel R HBl.out
    have HB' := Lib.hid (bthen HB.out HBl.out)
    clear A B R HB
    have A := A'
    clear A'
    have B := B'
    clear B'
    have R := R'
    clear R'
    have HB := HB'
    clear HB'
    have hg1 : W.heap.size ≤ g1 := HG1.out
    clear HG1 HBl
    obtain ⟨a0, a1, a2, a3, a4⟩ := Blk.cells5 A
    obtain ⟨b0, b1, b2, b3, b4⟩ := Blk.cells5 B
    go_wp2_with fail
    refine (HU.out _).mono ?_
    rintro e w2 ⟨rfl, hb2⟩
    have R' := Blk.bel R hb2
    have T1' := Blk.bel T1 hb2
    have HB' := Lib.hid (bthen HB.out hb2)
    clear R T1 HB hb2
    have R := R'
    clear R'
    have T1 := T1'
    clear T1'
    have HB := HB'
    clear HB'
    clear A B a0 a1 a2 a3 a4 b0 b1 b2 b3 b4
    go_wp2_with fail
    refine (HAr.out _ _ _ (by assumption) (by assumption)).mono ?_
    rintro e w3 ⟨rfl, hb3⟩
    have R' := Blk.bel R hb3
    have T1' := Blk.bel T1 hb3
    have HB' := Lib.hid (bthen HB.out hb3)
    clear R T1 HB hb3
    have R := R'
    clear R'
    have T1 := T1'
    clear T1'
    have HB := HB'
    clear HB'
    go_upto_region 3 with (fail)
    have T2 := Blk.new w3 #[.int .u64 (MWide.w0 ru), .int .u64 (MWide.w1 ru), .int .u64 (MWide.w2 ru)] 26
    have R' := Blk.alloc R (.cells #[.int .u64 (MWide.w0 ru), .int .u64 (MWide.w1 ru), .int .u64 (MWide.w2 ru)] 26)
    have T1' := Blk.alloc T1 (.cells #[.int .u64 (MWide.w0 ru), .int .u64 (MWide.w1 ru), .int .u64 (MWide.w2 ru)] 26)
    have HB' := Lib.hid (HB.out.alloc HB.out.size (.cells #[.int .u64 (MWide.w0 ru), .int .u64 (MWide.w1 ru), .int .u64 (MWide.w2 ru)] 26))
    obtain ⟨W4, hW⟩ : ∃ W, w3.alloc (.cells #[.int .u64 (MWide.w0 ru), .int .u64 (MWide.w1 ru), .int .u64 (MWide.w2 ru)] 26) = W := ⟨_, rfl⟩
    rw [hW] at T2 R' T1' HB' ⊢
    have g20 := HB.out.size
    obtain ⟨g2, hg⟩ : ∃ g, w3.heap.size = g := ⟨_, rfl⟩
    rw [hg] at T2 g20 ⊢
    clear hW hg R T1 HB
    have R := R'
    clear R'
    have T1 := T1'
    clear T1'
    have HB := HB'
    clear HB'
    obtain ⟨t0, t1, t2⟩ := Blk.cells3 T1
    obtain ⟨u0, u1, u2⟩ := Blk.cells3 T2
    go_wp2_with fail
    refine (HS.out _).mono ?_
    rintro e w5 ⟨rfl, hb5⟩
    clear t0 t1 t2 u0 u1 u2
    have R' := Blk.bel R hb5
    have T1' := Blk.bel T1 hb5
    have T2' := Blk.bel T2 hb5
    have HB' := Lib.hid (bthen HB.out hb5)
    clear R T1 T2 HB hb5
    have R := R'
    clear R'
    have T1 := T1'
    clear T1'
    have T2 := T2'
    clear T2'
    have HB := HB'
    clear HB'
    go_upto_region 4 with (fail)
    have T9 := Blk.new w5 #[.int .u64 (MWide.w0 rs), .int .u64 (MWide.w1 rs), .int .u64 (MWide.w2 rs)] 26
    have R' := Blk.alloc R (.cells #[.int .u64 (MWide.w0 rs), .int .u64 (MWide.w1 rs), .int .u64 (MWide.w2 rs)] 26)
    have HB' := Lib.hid (HB.out.alloc HB.out.size (.cells #[.int .u64 (MWide.w0 rs), .int .u64 (MWide.w1 rs), .int .u64 (MWide.w2 rs)] 26))
    obtain ⟨W9, hW⟩ : ∃ W, w5.alloc (.cells #[.int .u64 (MWide.w0 rs), .int .u64 (MWide.w1 rs), .int .u64 (MWide.w2 rs)] 26) = W := ⟨_, rfl⟩
    rw [hW] at T9 R' HB' ⊢
    have g90 := HB.out.size
    obtain ⟨g9, hg⟩ : ∃ g, w5.heap.size = g := ⟨_, rfl⟩
    rw [hg] at T9 g90 ⊢
    clear hW hg R HB
    have R := R'
    clear R'
    have HB := HB'
    clear HB'
    obtain ⟨r0, r1, r2⟩ := Blk.cells3 R
    have rf0 := R.froz 0; have rf1 := R.froz 1; have rf2 := R.froz 2
    obtain ⟨t0, t1, t2⟩ := Blk.cells3 T9
    go_wp2_with fail
    refine bodyPost_ret (v := .tuple #[.agg #[.int .u64 (MWide.w0 rs), .int .u64 (MWide.w1 rs), .int .u64 (MWide.w2 rs)], .bool false]) ?_ rfl ⟨rfl, below_set3 HB.out (by omega) _ _ _⟩
    obtain ⟨q0, q1, q2⟩ := Blk.cells3 (Blk.set3 R (x' := .int .u64 (MWide.w0 rs)) (y' := .int .u64 (MWide.w1 rs)) (z' := .int .u64 (MWide.w2 rs)))
    simp [results, Tryd.results46, go_sem, q0, q1, q2]
set_option maxHeartbeats 2000000 in
set_option maxRecDepth 100000 in
theorem refWaste_calls (a b : Bx) (w : World) (ha : a.ok) (hb : b.ok) : Calls Tryd.prog 47 #[.agg #[.bool a.no, .int .i64 a.lx, .int .i64 a.ly, .int .i64 a.hx, .int .i64 a.hy], .agg #[.bool b.no, .int .i64 b.lx, .int .i64 b.ly, .int .i64 b.hx, .int .i64 b.hy]] w fun e w' => e = .returned (.tuple #[.agg #[.int .u64 (MWide.w0 (MBox.waste a b)), .int .u64 (MWide.w1 (MBox.waste a b)), .int .u64 (MWide.w2 (MBox.waste a b))], .bool (MBox.wasteN a b)]) ∧ Bel w w' := by
  have HU := Lib.hid (fun w => refUnion_calls a b w)
  have HAr := Lib.hid refArea_is
  have hou := MBox.union_ok ha hb
  have hua := MBox.area_192 hou
  have haa := MBox.area_192 ha
  have hab := MBox.area_192 hb
  obtain ⟨hbu, hbv⟩ := MBox.both_u ha hb
  have hwn : MBox.wasteN a b = decide (MBox.area (MBox.union a b) < MBox.area a + MBox.area b) := rfl
  have hwv : MBox.waste a b = (if MBox.wasteN a b = true then MBox.area a + MBox.area b - MBox.area (MBox.union a b) else MBox.area (MBox.union a b) - (MBox.area a + MBox.area b)) := rfl
  obtain ⟨un, hun⟩ : ∃ u, MBox.union a b = u := ⟨_, rfl⟩
  rw [hun] at HU hou hua hwn hwv
  obtain ⟨ru, hru⟩ : ∃ u, MBox.area un = u := ⟨_, rfl⟩
  obtain ⟨ra, hra⟩ : ∃ u, MBox.area a = u := ⟨_, rfl⟩
  obtain ⟨rb, hrb⟩ : ∃ u, MBox.area b = u := ⟨_, rfl⟩
  rw [hru] at hua hwn hwv
  rw [hra] at haa hwn hwv hbu hbv
  rw [hrb] at hab hwn hwv hbu hbv
  have HA := Lib.hid (fun w => refAdd_calls ra rb w haa hab)
  rw [hbv] at HA
  obtain ⟨ao, hao⟩ : ∃ u, addOk ra rb = u := ⟨_, rfl⟩
  rw [hao] at HA
  clear haa hab hbv hao
  obtain ⟨bo, hbo⟩ : ∃ u, ra + rb = u := ⟨_, rfl⟩
  rw [hbo] at HA hbu hwn hwv
  clear hbo
  have HS := Lib.hid (fun w => refSub_calls ru bo w hua hbu)
  have HS2 := Lib.hid (fun w => refSub_calls bo ru w hbu hua)
  have HC := Lib.hid (fun w => refCmp_calls ru bo w hua hbu)
  clear hun hua hbu
  by_cases hlt : ru < bo
  · have hwn2 : MBox.wasteN a b = true := by rw [hwn]; exact decide_eq_true hlt
    have hwv2 : MBox.waste a b = bo - ru := by rw [hwv, hwn2]; rfl
    rw [hwn2, hwv2]
    have hs1 : subOk ru bo = false := by unfold subOk; exact decide_eq_false (by omega)
    have hs2 : subOk bo ru = true := by unfold subOk; exact decide_eq_true (by omega)
    have hv1 : subV ru bo = 0 := by unfold subV; rw [if_neg (by rw [hs1]; decide)]
    have hv2 : subV bo ru = bo - ru := by unfold subV; rw [if_pos hs2]
    rw [hs1, hv1] at HS
    rw [hs2, hv2] at HS2
    obtain ⟨cv, hcv⟩ : ∃ u, cmpV ru bo = u := ⟨_, rfl⟩
    have hcz : decide (cv < 0) = true := by rw [← hcv]; unfold cmpV; rw [if_pos hlt]; decide
    rw [hcv] at HC
    clear hcv
    obtain ⟨rs, hrs⟩ : ∃ u, bo - ru = u := ⟨_, rfl⟩
    rw [hrs] at HS2 ⊢
    clear hwn2 hwv2 hrs hs1 hv1 hs2 hv2 hlt hwn hwv
    have A := ((Blk.new w #[.bool a.no, .int .i64 a.lx, .int .i64 a.ly, .int .i64 a.hx, .int .i64 a.hy] 52).alloc (.cells #[.bool b.no, .int .i64 b.lx, .int .i64 b.ly, .int .i64 b.hx, .int .i64 b.hy] 52)).alloc (.cells #[.int .u64 0, .int .u64 0, .int .u64 0] 24)
    have B := (Blk.new_at (W := (w.alloc (.cells #[.bool a.no, .int .i64 a.lx, .int .i64 a.ly, .int .i64 a.hx, .int .i64 a.hy] 52))) (g := w.heap.size + 1) (by simp) #[.bool b.no, .int .i64 b.lx, .int .i64 b.ly, .int .i64 b.hx, .int .i64 b.hy] 52).alloc (.cells #[.int .u64 0, .int .u64 0, .int .u64 0] 24)
    have R := Blk.new_at (W := ((w.alloc (.cells #[.bool a.no, .int .i64 a.lx, .int .i64 a.ly, .int .i64 a.hx, .int .i64 a.hy] 52)).alloc (.cells #[.bool b.no, .int .i64 b.lx, .int .i64 b.ly, .int .i64 b.hx, .int .i64 b.hy] 52))) (g := w.heap.size + 1 + 1) (by simp) #[.int .u64 0, .int .u64 0, .int .u64 0] 24
    have HB : Hid (Below w.heap.size w (((w.alloc (.cells #[.bool a.no, .int .i64 a.lx, .int .i64 a.ly, .int .i64 a.hx, .int .i64 a.hy] 52)).alloc (.cells #[.bool b.no, .int .i64 b.lx, .int .i64 b.ly, .int .i64 b.hx, .int .i64 b.hy] 52)).alloc (.cells #[.int .u64 0, .int .u64 0, .int .u64 0] 24))) := Lib.hid (by repeat (first | exact Below.refl _ _ | refine Below.drew ?_ | refine Below.alloc ?_ (by simp <;> omega) _))
    go_enter Tryd.func47, Tryd.ntmps47
    go_upto_region 1 with (fail)
    obtain ⟨W, hW⟩ : ∃ W, (((w.alloc (.cells #[.bool a.no, .int .i64 a.lx, .int .i64 a.ly, .int .i64 a.hx, .int .i64 a.hy] 52)).alloc (.cells #[.bool b.no, .int .i64 b.lx, .int .i64 b.ly, .int .i64 b.hx, .int .i64 b.hy] 52)).alloc (.cells #[.int .u64 0, .int .u64 0, .int .u64 0] 24)) = W := ⟨_, rfl⟩
    rw [hW] at A B R HB ⊢
    clear hW
    obtain ⟨a0, a1, a2, a3, a4⟩ := Blk.cells5 A
    obtain ⟨b0, b1, b2, b3, b4⟩ := Blk.cells5 B
    have HBk := Lib.hid (Bel.refl W)
    have hS0 := And.intro a0 (And.intro a1 (And.intro a2 (And.intro a3 (And.intro a4 (And.intro b0 (And.intro b1 (And.intro b2 (And.intro b3 (And.intro b4 (HBk.out))))))))))
    have hlt1 := Blk.lt A
    have hlt2 := Blk.lt B
    have hlt3 := Blk.lt R
    have hdr : W.drew.heap.size = W.heap.size := rfl
    go_cut [6] (fun p w' => ∃ g, p = .pointer (some ⟨g, 0, none⟩) ∧ Hid (W.heap.size ≤ g) ∧ Hid (Bel W w') ∧ Blk w' g #[.int .u64 (MWide.w0 bo), .int .u64 (MWide.w1 bo), .int .u64 (MWide.w2 bo)] 24)
    case first =>
      go_wp2_with fail
      go_region_held3 (fun w' => w'.cell? ⟨w.heap.size, 0, none⟩ = some (.bool a.no) ∧ w'.cell? ⟨w.heap.size, 1, none⟩ = some (.int .i64 a.lx) ∧ w'.cell? ⟨w.heap.size, 2, none⟩ = some (.int .i64 a.ly) ∧ w'.cell? ⟨w.heap.size, 3, none⟩ = some (.int .i64 a.hx) ∧ w'.cell? ⟨w.heap.size, 4, none⟩ = some (.int .i64 a.hy) ∧ w'.cell? ⟨w.heap.size + 1, 0, none⟩ = some (.bool b.no) ∧ w'.cell? ⟨w.heap.size + 1, 1, none⟩ = some (.int .i64 b.lx) ∧ w'.cell? ⟨w.heap.size + 1, 2, none⟩ = some (.int .i64 b.ly) ∧ w'.cell? ⟨w.heap.size + 1, 3, none⟩ = some (.int .i64 b.hx) ∧ w'.cell? ⟨w.heap.size + 1, 4, none⟩ = some (.int .i64 b.hy) ∧ Bel W w') (first | with_reducible assumption | with_reducible exact kb2 hb (by assumption) | with_reducible exact kb2 (Bel.drew _) hS0 | with_reducible exact kb2_re (by omega) (by omega) (by omega) (by assumption) | with_reducible exact kb2 ((Bel.refl _).alloc (Nat.le_refl _) _) (by assumption) | with_reducible exact kb2_set3 (by omega) (by omega) (by omega) (by assumption))
        (first
          | (go_at_call 55; refine (HAr.out _ _ _ (by assumption) (by assumption)).mono ?_; rintro e w' ⟨rfl, hb⟩; have hzz := hb.size; (first | (have O := Blk.bel O hb) | (have O := Blk.bel (Blk.new _ _ _) hb) | (have O := Blk.bel (Blk.drew (Blk.new _ _ _)) hb) | skip))
          | (go_at_call 35; refine (HA.out _).mono ?_; rintro e w' ⟨rfl, hb⟩; have hzz := hb.size; (first | (have O := Blk.bel O hb) | (have O := Blk.bel (Blk.new _ _ _) hb) | (have O := Blk.bel (Blk.drew (Blk.new _ _ _)) hb) | skip); (first | (obtain ⟨o0, o1, o2⟩ := Blk.cells3 O; have f0 := O.froz 0; have f1 := O.froz 1; have f2 := O.froz 2) | skip)))
      all_goals
        rename_i hheld
        go_wp2_with fail
        go_meet
        first
          | exact ⟨_, rfl, Lib.hid (by omega), Lib.hid hheld.2.2.2.2.2.2.2.2.2.2, Blk.set3 O⟩
          | exact ⟨_, rfl, Lib.hid (by omega), Lib.hid hheld.2.2.2.2.2.2.2.2.2.2, Blk.new _ _ _⟩
    clear hS0 hdr a0 a1 a2 a3 a4 b0 b1 b2 b3 b4
    obtain ⟨g1, rfl, HG1, HBl, T1⟩ := hcut
    have A' := Blk.bel A HBl.out
    have B' := Blk.bel B HBl.out
    have R' := Blk.bel R HBl.out
    have HB' := Lib.hid (bthen HB.out HBl.out)
    clear A B R HB
    have A := A'
    clear A'
    have B := B'
    clear B'
    have R := R'
    clear R'
    have HB := HB'
    clear HB'
    have hg1 : W.heap.size ≤ g1 := HG1.out
    clear HG1 HBl
    obtain ⟨a0, a1, a2, a3, a4⟩ := Blk.cells5 A
    obtain ⟨b0, b1, b2, b3, b4⟩ := Blk.cells5 B
    go_wp2_with fail
    refine (HU.out _).mono ?_
    rintro e w2 ⟨rfl, hb2⟩
    have R' := Blk.bel R hb2
    have T1' := Blk.bel T1 hb2
    have HB' := Lib.hid (bthen HB.out hb2)
    clear R T1 HB hb2
    have R := R'
    clear R'
    have T1 := T1'
    clear T1'
    have HB := HB'
    clear HB'
    clear A B a0 a1 a2 a3 a4 b0 b1 b2 b3 b4
    go_wp2_with fail
    refine (HAr.out _ _ _ (by assumption) (by assumption)).mono ?_
    rintro e w3 ⟨rfl, hb3⟩
    have R' := Blk.bel R hb3
    have T1' := Blk.bel T1 hb3
    have HB' := Lib.hid (bthen HB.out hb3)
    clear R T1 HB hb3
    have R := R'
    clear R'
    have T1 := T1'
    clear T1'
    have HB := HB'
    clear HB'
    go_upto_region 3 with (fail)
    have T2 := Blk.new w3 #[.int .u64 (MWide.w0 ru), .int .u64 (MWide.w1 ru), .int .u64 (MWide.w2 ru)] 24
    have R' := Blk.alloc R (.cells #[.int .u64 (MWide.w0 ru), .int .u64 (MWide.w1 ru), .int .u64 (MWide.w2 ru)] 24)
    have T1' := Blk.alloc T1 (.cells #[.int .u64 (MWide.w0 ru), .int .u64 (MWide.w1 ru), .int .u64 (MWide.w2 ru)] 24)
    have HB' := Lib.hid (HB.out.alloc HB.out.size (.cells #[.int .u64 (MWide.w0 ru), .int .u64 (MWide.w1 ru), .int .u64 (MWide.w2 ru)] 24))
    obtain ⟨W4, hW⟩ : ∃ W, w3.alloc (.cells #[.int .u64 (MWide.w0 ru), .int .u64 (MWide.w1 ru), .int .u64 (MWide.w2 ru)] 24) = W := ⟨_, rfl⟩
    rw [hW] at T2 R' T1' HB' ⊢
    have g20 := HB.out.size
    obtain ⟨g2, hg⟩ : ∃ g, w3.heap.size = g := ⟨_, rfl⟩
    rw [hg] at T2 g20 ⊢
    clear hW hg R T1 HB
    have R := R'
    clear R'
    have T1 := T1'
    clear T1'
    have HB := HB'
    clear HB'
    obtain ⟨t0, t1, t2⟩ := Blk.cells3 T1
    obtain ⟨u0, u1, u2⟩ := Blk.cells3 T2
    go_wp2_with fail
    refine (HC.out _).mono ?_
    rintro e w5 ⟨rfl, hb5⟩
    clear t0 t1 t2 u0 u1 u2
    have R' := Blk.bel R hb5
    have T1' := Blk.bel T1 hb5
    have T2' := Blk.bel T2 hb5
    have HB' := Lib.hid (bthen HB.out hb5)
    clear R T1 T2 HB hb5
    have R := R'
    clear R'
    have T1 := T1'
    clear T1'
    have T2 := T2'
    clear T2'
    have HB := HB'
    clear HB'
    obtain ⟨t0, t1, t2⟩ := Blk.cells3 T1
    obtain ⟨u0, u1, u2⟩ := Blk.cells3 T2
    go_wp2_with fail
    refine (HS2.out _).mono ?_
    rintro e w6 ⟨rfl, hb6⟩
    clear t0 t1 t2 u0 u1 u2
    have R' := Blk.bel R hb6
    have HB' := Lib.hid (bthen HB.out hb6)
    clear R HB hb6
    have R := R'
    clear R'
    have HB := HB'
    clear HB'
    go_upto_region 5 with (fail)
    have T9 := Blk.new w6 #[.int .u64 (MWide.w0 rs), .int .u64 (MWide.w1 rs), .int .u64 (MWide.w2 rs)] 24
    have R' := Blk.alloc R (.cells #[.int .u64 (MWide.w0 rs), .int .u64 (MWide.w1 rs), .int .u64 (MWide.w2 rs)] 24)
    have HB' := Lib.hid (HB.out.alloc HB.out.size (.cells #[.int .u64 (MWide.w0 rs), .int .u64 (MWide.w1 rs), .int .u64 (MWide.w2 rs)] 24))
    obtain ⟨W9, hW⟩ : ∃ W, w6.alloc (.cells #[.int .u64 (MWide.w0 rs), .int .u64 (MWide.w1 rs), .int .u64 (MWide.w2 rs)] 24) = W := ⟨_, rfl⟩
    rw [hW] at T9 R' HB' ⊢
    have g90 := HB.out.size
    obtain ⟨g9, hg⟩ : ∃ g, w6.heap.size = g := ⟨_, rfl⟩
    rw [hg] at T9 g90 ⊢
    clear hW hg R HB
    have R := R'
    clear R'
    have HB := HB'
    clear HB'
    obtain ⟨r0, r1, r2⟩ := Blk.cells3 R
    have rf0 := R.froz 0; have rf1 := R.froz 1; have rf2 := R.froz 2
    obtain ⟨t0, t1, t2⟩ := Blk.cells3 T9
    go_wp2_with fail
    refine bodyPost_ret (v := .tuple #[.agg #[.int .u64 (MWide.w0 rs), .int .u64 (MWide.w1 rs), .int .u64 (MWide.w2 rs)], .bool true]) ?_ rfl ⟨rfl, below_set3 HB.out (by omega) _ _ _⟩
    obtain ⟨q0, q1, q2⟩ := Blk.cells3 (Blk.set3 R (x' := .int .u64 (MWide.w0 rs)) (y' := .int .u64 (MWide.w1 rs)) (z' := .int .u64 (MWide.w2 rs)))
    simp [results, Tryd.results47, go_sem, q0, q1, q2]
  
  · have hwn2 : MBox.wasteN a b = false := by rw [hwn]; exact decide_eq_false hlt
    have hwv2 : MBox.waste a b = ru - bo := by rw [hwv, hwn2]; rfl
    rw [hwn2, hwv2]
    have hs1 : subOk ru bo = true := by unfold subOk; exact decide_eq_true (by omega)
    have hv1 : subV ru bo = ru - bo := by unfold subV; rw [if_pos hs1]
    rw [hs1, hv1] at HS
    obtain ⟨cv, hcv⟩ : ∃ u, cmpV ru bo = u := ⟨_, rfl⟩
    have hcz : decide (cv < 0) = false := by rw [← hcv]; unfold cmpV; rw [if_neg hlt]; split <;> decide
    rw [hcv] at HC
    clear hcv
    obtain ⟨rs, hrs⟩ : ∃ u, ru - bo = u := ⟨_, rfl⟩
    rw [hrs] at HS ⊢
    clear hwn2 hwv2 hrs hs1 hv1 hlt hwn hwv
    have A := ((Blk.new w #[.bool a.no, .int .i64 a.lx, .int .i64 a.ly, .int .i64 a.hx, .int .i64 a.hy] 52).alloc (.cells #[.bool b.no, .int .i64 b.lx, .int .i64 b.ly, .int .i64 b.hx, .int .i64 b.hy] 52)).alloc (.cells #[.int .u64 0, .int .u64 0, .int .u64 0] 24)
    have B := (Blk.new_at (W := (w.alloc (.cells #[.bool a.no, .int .i64 a.lx, .int .i64 a.ly, .int .i64 a.hx, .int .i64 a.hy] 52))) (g := w.heap.size + 1) (by simp) #[.bool b.no, .int .i64 b.lx, .int .i64 b.ly, .int .i64 b.hx, .int .i64 b.hy] 52).alloc (.cells #[.int .u64 0, .int .u64 0, .int .u64 0] 24)
    have R := Blk.new_at (W := ((w.alloc (.cells #[.bool a.no, .int .i64 a.lx, .int .i64 a.ly, .int .i64 a.hx, .int .i64 a.hy] 52)).alloc (.cells #[.bool b.no, .int .i64 b.lx, .int .i64 b.ly, .int .i64 b.hx, .int .i64 b.hy] 52))) (g := w.heap.size + 1 + 1) (by simp) #[.int .u64 0, .int .u64 0, .int .u64 0] 24
    have HB : Hid (Below w.heap.size w (((w.alloc (.cells #[.bool a.no, .int .i64 a.lx, .int .i64 a.ly, .int .i64 a.hx, .int .i64 a.hy] 52)).alloc (.cells #[.bool b.no, .int .i64 b.lx, .int .i64 b.ly, .int .i64 b.hx, .int .i64 b.hy] 52)).alloc (.cells #[.int .u64 0, .int .u64 0, .int .u64 0] 24))) := Lib.hid (by repeat (first | exact Below.refl _ _ | refine Below.drew ?_ | refine Below.alloc ?_ (by simp <;> omega) _))
    go_enter Tryd.func47, Tryd.ntmps47
    go_upto_region 1 with (fail)
    obtain ⟨W, hW⟩ : ∃ W, (((w.alloc (.cells #[.bool a.no, .int .i64 a.lx, .int .i64 a.ly, .int .i64 a.hx, .int .i64 a.hy] 52)).alloc (.cells #[.bool b.no, .int .i64 b.lx, .int .i64 b.ly, .int .i64 b.hx, .int .i64 b.hy] 52)).alloc (.cells #[.int .u64 0, .int .u64 0, .int .u64 0] 24)) = W := ⟨_, rfl⟩
    rw [hW] at A B R HB ⊢
    clear hW
    obtain ⟨a0, a1, a2, a3, a4⟩ := Blk.cells5 A
    obtain ⟨b0, b1, b2, b3, b4⟩ := Blk.cells5 B
    have HBk := Lib.hid (Bel.refl W)
    have hS0 := And.intro a0 (And.intro a1 (And.intro a2 (And.intro a3 (And.intro a4 (And.intro b0 (And.intro b1 (And.intro b2 (And.intro b3 (And.intro b4 (HBk.out))))))))))
    have hlt1 := Blk.lt A
    have hlt2 := Blk.lt B
    have hlt3 := Blk.lt R
    have hdr : W.drew.heap.size = W.heap.size := rfl
    go_cut [6] (fun p w' => ∃ g, p = .pointer (some ⟨g, 0, none⟩) ∧ Hid (W.heap.size ≤ g) ∧ Hid (Bel W w') ∧ Blk w' g #[.int .u64 (MWide.w0 bo), .int .u64 (MWide.w1 bo), .int .u64 (MWide.w2 bo)] 24)
    case first =>
      go_wp2_with fail
      go_region_held3 (fun w' => w'.cell? ⟨w.heap.size, 0, none⟩ = some (.bool a.no) ∧ w'.cell? ⟨w.heap.size, 1, none⟩ = some (.int .i64 a.lx) ∧ w'.cell? ⟨w.heap.size, 2, none⟩ = some (.int .i64 a.ly) ∧ w'.cell? ⟨w.heap.size, 3, none⟩ = some (.int .i64 a.hx) ∧ w'.cell? ⟨w.heap.size, 4, none⟩ = some (.int .i64 a.hy) ∧ w'.cell? ⟨w.heap.size + 1, 0, none⟩ = some (.bool b.no) ∧ w'.cell? ⟨w.heap.size + 1, 1, none⟩ = some (.int .i64 b.lx) ∧ w'.cell? ⟨w.heap.size + 1, 2, none⟩ = some (.int .i64 b.ly) ∧ w'.cell? ⟨w.heap.size + 1, 3, none⟩ = some (.int .i64 b.hx) ∧ w'.cell? ⟨w.heap.size + 1, 4, none⟩ = some (.int .i64 b.hy) ∧ Bel W w') (first | with_reducible assumption | with_reducible exact kb2 hb (by assumption) | with_reducible exact kb2 (Bel.drew _) hS0 | with_reducible exact kb2_re (by omega) (by omega) (by omega) (by assumption) | with_reducible exact kb2 ((Bel.refl _).alloc (Nat.le_refl _) _) (by assumption) | with_reducible exact kb2_set3 (by omega) (by omega) (by omega) (by assumption))
        (first
          | (go_at_call 55; refine (HAr.out _ _ _ (by assumption) (by assumption)).mono ?_; rintro e w' ⟨rfl, hb⟩; have hzz := hb.size; (first | (have O := Blk.bel O hb) | (have O := Blk.bel (Blk.new _ _ _) hb) | (have O := Blk.bel (Blk.drew (Blk.new _ _ _)) hb) | skip))
          | (go_at_call 35; refine (HA.out _).mono ?_; rintro e w' ⟨rfl, hb⟩; have hzz := hb.size; (first | (have O := Blk.bel O hb) | (have O := Blk.bel (Blk.new _ _ _) hb) | (have O := Blk.bel (Blk.drew (Blk.new _ _ _)) hb) | skip); (first | (obtain ⟨o0, o1, o2⟩ := Blk.cells3 O; have f0 := O.froz 0; have f1 := O.froz 1; have f2 := O.froz 2) | skip)))
      all_goals
        rename_i hheld
        go_wp2_with fail
        go_meet
        first
          | exact ⟨_, rfl, Lib.hid (by omega), Lib.hid hheld.2.2.2.2.2.2.2.2.2.2, Blk.set3 O⟩
          | exact ⟨_, rfl, Lib.hid (by omega), Lib.hid hheld.2.2.2.2.2.2.2.2.2.2, Blk.new _ _ _⟩
    clear hS0 hdr a0 a1 a2 a3 a4 b0 b1 b2 b3 b4
    obtain ⟨g1, rfl, HG1, HBl, T1⟩ := hcut
    have A' := Blk.bel A HBl.out
    have B' := Blk.bel B HBl.out
    have R' := Blk.bel R HBl.out
    have HB' := Lib.hid (bthen HB.out HBl.out)
    clear A B R HB
    have A := A'
    clear A'
    have B := B'
    clear B'
    have R := R'
    clear R'
    have HB := HB'
    clear HB'
    have hg1 : W.heap.size ≤ g1 := HG1.out
    clear HG1 HBl
    obtain ⟨a0, a1, a2, a3, a4⟩ := Blk.cells5 A
    obtain ⟨b0, b1, b2, b3, b4⟩ := Blk.cells5 B
    go_wp2_with fail
    refine (HU.out _).mono ?_
    rintro e w2 ⟨rfl, hb2⟩
    have R' := Blk.bel R hb2
    have T1' := Blk.bel T1 hb2
    have HB' := Lib.hid (bthen HB.out hb2)
    clear R T1 HB hb2
    have R := R'
    clear R'
    have T1 := T1'
    clear T1'
    have HB := HB'
    clear HB'
    clear A B a0 a1 a2 a3 a4 b0 b1 b2 b3 b4
    go_wp2_with fail
    refine (HAr.out _ _ _ (by assumption) (by assumption)).mono ?_
    rintro e w3 ⟨rfl, hb3⟩
    have R' := Blk.bel R hb3
    have T1' := Blk.bel T1 hb3
    have HB' := Lib.hid (bthen HB.out hb3)
    clear R T1 HB hb3
    have R := R'
    clear R'
    have T1 := T1'
    clear T1'
    have HB := HB'
    clear HB'
    go_upto_region 3 with (fail)
    have T2 := Blk.new w3 #[.int .u64 (MWide.w0 ru), .int .u64 (MWide.w1 ru), .int .u64 (MWide.w2 ru)] 24
    have R' := Blk.alloc R (.cells #[.int .u64 (MWide.w0 ru), .int .u64 (MWide.w1 ru), .int .u64 (MWide.w2 ru)] 24)
    have T1' := Blk.alloc T1 (.cells #[.int .u64 (MWide.w0 ru), .int .u64 (MWide.w1 ru), .int .u64 (MWide.w2 ru)] 24)
    have HB' := Lib.hid (HB.out.alloc HB.out.size (.cells #[.int .u64 (MWide.w0 ru), .int .u64 (MWide.w1 ru), .int .u64 (MWide.w2 ru)] 24))
    obtain ⟨W4, hW⟩ : ∃ W, w3.alloc (.cells #[.int .u64 (MWide.w0 ru), .int .u64 (MWide.w1 ru), .int .u64 (MWide.w2 ru)] 24) = W := ⟨_, rfl⟩
    rw [hW] at T2 R' T1' HB' ⊢
    have g20 := HB.out.size
    obtain ⟨g2, hg⟩ : ∃ g, w3.heap.size = g := ⟨_, rfl⟩
    rw [hg] at T2 g20 ⊢
    clear hW hg R T1 HB
    have R := R'
    clear R'
    have T1 := T1'
    clear T1'
    have HB := HB'
    clear HB'
    obtain ⟨t0, t1, t2⟩ := Blk.cells3 T1
    obtain ⟨u0, u1, u2⟩ := Blk.cells3 T2
    go_wp2_with fail
    refine (HC.out _).mono ?_
    rintro e w5 ⟨rfl, hb5⟩
    clear t0 t1 t2 u0 u1 u2
    have R' := Blk.bel R hb5
    have T1' := Blk.bel T1 hb5
    have T2' := Blk.bel T2 hb5
    have HB' := Lib.hid (bthen HB.out hb5)
    clear R T1 T2 HB hb5
    have R := R'
    clear R'
    have T1 := T1'
    clear T1'
    have T2 := T2'
    clear T2'
    have HB := HB'
    clear HB'
    obtain ⟨t0, t1, t2⟩ := Blk.cells3 T1
    obtain ⟨u0, u1, u2⟩ := Blk.cells3 T2
    go_wp2_with fail
    refine (HS.out _).mono ?_
    rintro e w6 ⟨rfl, hb6⟩
    clear t0 t1 t2 u0 u1 u2
    have R' := Blk.bel R hb6
    have HB' := Lib.hid (bthen HB.out hb6)
    clear R HB hb6
    have R := R'
    clear R'
    have HB := HB'
    clear HB'
    go_upto_region 7 with (fail)
    have T9 := Blk.new w6 #[.int .u64 (MWide.w0 rs), .int .u64 (MWide.w1 rs), .int .u64 (MWide.w2 rs)] 24
    have R' := Blk.alloc R (.cells #[.int .u64 (MWide.w0 rs), .int .u64 (MWide.w1 rs), .int .u64 (MWide.w2 rs)] 24)
    have HB' := Lib.hid (HB.out.alloc HB.out.size (.cells #[.int .u64 (MWide.w0 rs), .int .u64 (MWide.w1 rs), .int .u64 (MWide.w2 rs)] 24))
    obtain ⟨W9, hW⟩ : ∃ W, w6.alloc (.cells #[.int .u64 (MWide.w0 rs), .int .u64 (MWide.w1 rs), .int .u64 (MWide.w2 rs)] 24) = W := ⟨_, rfl⟩
    rw [hW] at T9 R' HB' ⊢
    have g90 := HB.out.size
    obtain ⟨g9, hg⟩ : ∃ g, w6.heap.size = g := ⟨_, rfl⟩
    rw [hg] at T9 g90 ⊢
    clear hW hg R HB
    have R := R'
    clear R'
    have HB := HB'
    clear HB'
    obtain ⟨r0, r1, r2⟩ := Blk.cells3 R
    have rf0 := R.froz 0; have rf1 := R.froz 1; have rf2 := R.froz 2
    obtain ⟨t0, t1, t2⟩ := Blk.cells3 T9
    go_wp2_with fail
    refine bodyPost_ret (v := .tuple #[.agg #[.int .u64 (MWide.w0 rs), .int .u64 (MWide.w1 rs), .int .u64 (MWide.w2 rs)], .bool false]) ?_ rfl ⟨rfl, below_set3 HB.out (by omega) _ _ _⟩
    obtain ⟨q0, q1, q2⟩ := Blk.cells3 (Blk.set3 R (x' := .int .u64 (MWide.w0 rs)) (y' := .int .u64 (MWide.w1 rs)) (z' := .int .u64 (MWide.w2 rs)))
    simp [results, Tryd.results47, go_sem, q0, q1, q2]

end Go.Proofs.YtakkifedcbhgfaaDoor.K
