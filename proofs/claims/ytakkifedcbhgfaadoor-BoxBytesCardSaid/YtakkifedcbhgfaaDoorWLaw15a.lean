/- Layer 15: BoxAsks -/
import Derived.Test.YtakkifedcbhgfaaDoorKB
import Derived.Handy
import Derived.Test.YtakkifedcbhgfaaDoorWLive15
import Derived.Test.YtakkifedcbhgfaaDoorKX2
import Derived.Test.YtakkifedcbhgfaaDoorKW3
namespace Go.Proofs.YtakkifedcbhgfaaDoor.K
open Go Go.RowKit Go.Proofs.YtakkifedcbhgfaaDoorW.PrintWords Go.Proofs.YtakkifedcbhgfaaDoorW.PrintLast Go.Proofs.YtakkifedcbhgfaaDoorW.PrintMore
set_option linter.unusedVariables false
set_option linter.unusedSimpArgs false
open Go.Proofs.YtakkifedcbhgfaaDoor.MWide (W64 U192 addV subV addOk subOk cmpV)
open Go.Proofs.YtakkifedcbhgfaaDoor.MBox (Bx I64)
theorem u15_calls (a : Int) (w : World) : Calls Tryd.prog 54 #[.agg #[.int .u64 (MWide.w0 a), .int .u64 (MWide.w1 a), .int .u64 (MWide.w2 a)]] w fun e w' => e = .returned (.agg #[.int .u64 (MWide.w0 a), .int .u64 (MWide.w1 a), .int .u64 (MWide.w2 a)]) ∧ Bel w w' := by
  go_enter Tryd.func54, Tryd.ntmps54
  go_wp2
  refine bodyPost_ret (v := .agg #[.int .u64 (MWide.w0 a), .int .u64 (MWide.w1 a), .int .u64 (MWide.w2 a)]) ?_ rfl ⟨rfl, by repeat (first | exact Below.refl _ _ | refine Below.drew ?_ | refine Below.alloc ?_ (by simp <;> omega) _)⟩
  simp [results, Tryd.results54, go_sem]
/-- An argument that is a box. -/
theorem box_arg {w : World} {x : Bool × (Int × Int) × (Int × Int)} {cs : Array Value} (h : (Kd.pair Kd.bool (Kd.pair (Kd.pair (Kd.int .i64) (Kd.int .i64)) (Kd.pair (Kd.int .i64) (Kd.int .i64)))).K w x cs.toList) (hq : True ∧ ((Lit.int .i64 x.2.1.1).wf = true ∧ (Lit.int .i64 x.2.1.2).wf = true) ∧ ((Lit.int .i64 x.2.2.1).wf = true ∧ (Lit.int .i64 x.2.2.2).wf = true)) : ∃ b : Bx, b.ok ∧ cs = #[.bool b.no, .int .i64 b.lx, .int .i64 b.ly, .int .i64 b.hx, .int .i64 b.hy] := by
  obtain ⟨-, ⟨h1, h2⟩, h3, h4⟩ := hq
  refine ⟨⟨x.1, x.2.1.1, x.2.1.2, x.2.2.1, x.2.2.2⟩, ⟨wf_i64 h1, wf_i64 h2, wf_i64 h3, wf_i64 h4⟩, ?_⟩
  obtain ⟨c1, c2, e, k1, c3, c4, e2, ⟨c5, c6, e3, k3, k4⟩, c7, c8, e4, k5, k6⟩ := h
  obtain rfl : c1 = [.bool x.1] := k1
  obtain rfl : c5 = [.int .i64 x.2.1.1] := k3
  obtain rfl : c6 = [.int .i64 x.2.1.2] := k4
  obtain rfl : c7 = [.int .i64 x.2.2.1] := k5
  obtain rfl : c8 = [.int .i64 x.2.2.2] := k6
  apply Array.toList_inj.1
  rw [e, e2, e3, e4]
  rfl
theorem kb16 {wr w w' : World} {g f h i : Nat} {b a : Bx} {x y : Int} (hb : Bel w w') (hh : w.cell? ⟨g, 0, none⟩ = some (.bool b.no) ∧ w.cell? ⟨g, 1, none⟩ = some (.int .i64 b.lx) ∧ w.cell? ⟨g, 2, none⟩ = some (.int .i64 b.ly) ∧ w.cell? ⟨g, 3, none⟩ = some (.int .i64 b.hx) ∧ w.cell? ⟨g, 4, none⟩ = some (.int .i64 b.hy) ∧ w.cell? ⟨f, 0, none⟩ = some (.bool a.no) ∧ w.cell? ⟨f, 1, none⟩ = some (.int .i64 a.lx) ∧ w.cell? ⟨f, 2, none⟩ = some (.int .i64 a.ly) ∧ w.cell? ⟨f, 3, none⟩ = some (.int .i64 a.hx) ∧ w.cell? ⟨f, 4, none⟩ = some (.int .i64 a.hy) ∧ w.cell? ⟨h, 0, none⟩ = some (.int .u64 (MWide.w0 x)) ∧ w.cell? ⟨h, 1, none⟩ = some (.int .u64 (MWide.w1 x)) ∧ w.cell? ⟨h, 2, none⟩ = some (.int .u64 (MWide.w2 x)) ∧ w.cell? ⟨i, 0, none⟩ = some (.int .u64 (MWide.w0 y)) ∧ w.cell? ⟨i, 1, none⟩ = some (.int .u64 (MWide.w1 y)) ∧ w.cell? ⟨i, 2, none⟩ = some (.int .u64 (MWide.w2 y)) ∧ Bel wr w) : w'.cell? ⟨g, 0, none⟩ = some (.bool b.no) ∧ w'.cell? ⟨g, 1, none⟩ = some (.int .i64 b.lx) ∧ w'.cell? ⟨g, 2, none⟩ = some (.int .i64 b.ly) ∧ w'.cell? ⟨g, 3, none⟩ = some (.int .i64 b.hx) ∧ w'.cell? ⟨g, 4, none⟩ = some (.int .i64 b.hy) ∧ w'.cell? ⟨f, 0, none⟩ = some (.bool a.no) ∧ w'.cell? ⟨f, 1, none⟩ = some (.int .i64 a.lx) ∧ w'.cell? ⟨f, 2, none⟩ = some (.int .i64 a.ly) ∧ w'.cell? ⟨f, 3, none⟩ = some (.int .i64 a.hx) ∧ w'.cell? ⟨f, 4, none⟩ = some (.int .i64 a.hy) ∧ w'.cell? ⟨h, 0, none⟩ = some (.int .u64 (MWide.w0 x)) ∧ w'.cell? ⟨h, 1, none⟩ = some (.int .u64 (MWide.w1 x)) ∧ w'.cell? ⟨h, 2, none⟩ = some (.int .u64 (MWide.w2 x)) ∧ w'.cell? ⟨i, 0, none⟩ = some (.int .u64 (MWide.w0 y)) ∧ w'.cell? ⟨i, 1, none⟩ = some (.int .u64 (MWide.w1 y)) ∧ w'.cell? ⟨i, 2, none⟩ = some (.int .u64 (MWide.w2 y)) ∧ Bel wr w' := by
  obtain ⟨h0, h1, h2, h3, h4, i0, i1, i2, i3, i4, j0, j1, j2, k0, k1, k2, hz⟩ := hh
  exact ⟨kc hb h0, kc hb h1, kc hb h2, kc hb h3, kc hb h4, kc hb i0, kc hb i1, kc hb i2, kc hb i3, kc hb i4, kc hb j0, kc hb j1, kc hb j2, kc hb k0, kc hb k1, kc hb k2, bthen hz hb⟩
set_option maxHeartbeats 4000000 in
set_option maxRecDepth 100000 in
theorem BoxAsks_calls {w : World} (cs : Array Value) (x : Bool × (Int × Int) × (Int × Int)) (hK : (Kd.pair Kd.bool (Kd.pair (Kd.pair (Kd.int .i64) (Kd.int .i64)) (Kd.pair (Kd.int .i64) (Kd.int .i64)))).K w x cs.toList) (hq : True ∧ ((Lit.int .i64 x.2.1.1).wf = true ∧ (Lit.int .i64 x.2.1.2).wf = true) ∧ ((Lit.int .i64 x.2.2.1).wf = true ∧ (Lit.int .i64 x.2.2.2).wf = true)) (ds : Array Value) (y : Bool × (Int × Int) × (Int × Int)) (hK' : (Kd.pair Kd.bool (Kd.pair (Kd.pair (Kd.int .i64) (Kd.int .i64)) (Kd.pair (Kd.int .i64) (Kd.int .i64)))).K w y ds.toList) (hq' : True ∧ ((Lit.int .i64 y.2.1.1).wf = true ∧ (Lit.int .i64 y.2.1.2).wf = true) ∧ ((Lit.int .i64 y.2.2.1).wf = true ∧ (Lit.int .i64 y.2.2.2).wf = true)) :
    Calls Tryd.prog 11 #[.agg cs, .agg ds] w fun e w' => e = .returned (.bool true) ∧ Below w.heap.size w w' := by
  obtain ⟨a, ha, rfl⟩ := box_arg hK hq
  obtain ⟨b, hb, rfl⟩ := box_arg hK' hq'
  clear hK hq hK' hq'
  have W1 := fun w => waste_calls a b w ha hb
  have W2 := fun w => refWaste_calls a b w ha hb
  have G1 := Lib.hid (fun w => growth_calls a b w ha hb)
  have G2 := Lib.hid (fun w => refGrowth_calls a b w ha hb)
  have A1 := Lib.hid (fun w => area_calls a w ha)
  have A2 := Lib.hid (fun w => refArea_calls a w ha)
  have U1 := Lib.hid (fun w => union_calls a b w)
  have U2 := Lib.hid (fun w => refUnion_calls a b w)
  have M1 := Lib.hid (fun w => meets_calls a b w)
  have M2 := Lib.hid (fun w => refMeets_calls a b w)
  have H1 := Lib.hid (fun w => holds_calls a b w)
  have H2 := Lib.hid (fun w => refHolds_calls a b w)
  have E1 := Lib.hid (fun w => equal_calls a b w)
  have E2 := Lib.hid (fun w => refEqual_calls a b w)
  have D1 := Lib.hid (fun w => good_calls a w)
  have D2 := Lib.hid (fun w => refGood_calls a w)
  have HU := Lib.hid u15_calls
  have HL := Lib.hid lives15
  have q0 := eqB (MBox.union a b) (MBox.union a b)
  rw [MBox.same_refl] at q0
  have W1 := Lib.hid W1
  have W2 := Lib.hid W2
  generalize MBox.waste a b = wv at W1 W2
  generalize MBox.wasteN a b = wn at W1 W2
  generalize MBox.growth a b = gv at G1 G2
  generalize MBox.area a = av at A1 A2
  generalize MBox.union a b = un at U1 U2 q0
  generalize MBox.meets a b = mt at M1 M2
  generalize MBox.holds a b = hd at H1 H2
  generalize MBox.equal a b = ev at E1 E2
  generalize MBox.good a = gd at D1 D2
  have q1 := eqU24 wv
  have q2 := eqU24 gv
  have q3 := eqU24 av
  have b1 : (mt == mt) = true := beq_self_eq_true _
  have b2 : (hd == hd) = true := beq_self_eq_true _
  have b3 : (ev == ev) = true := beq_self_eq_true _
  have b4 : (gd == gd) = true := beq_self_eq_true _
  have b5 : (wn == wn) = true := beq_self_eq_true _
  clear ha hb
  have A := (Blk.new w #[.bool a.no, .int .i64 a.lx, .int .i64 a.ly, .int .i64 a.hx, .int .i64 a.hy] 52).alloc (.cells #[.bool b.no, .int .i64 b.lx, .int .i64 b.ly, .int .i64 b.hx, .int .i64 b.hy] 52)
  have B := Blk.new_at (W := (w.alloc (.cells #[.bool a.no, .int .i64 a.lx, .int .i64 a.ly, .int .i64 a.hx, .int .i64 a.hy] 52))) (g := w.heap.size + 1) (by simp) #[.bool b.no, .int .i64 b.lx, .int .i64 b.ly, .int .i64 b.hx, .int .i64 b.hy] 52
  have HB : Hid (Below w.heap.size w ((w.alloc (.cells #[.bool a.no, .int .i64 a.lx, .int .i64 a.ly, .int .i64 a.hx, .int .i64 a.hy] 52)).alloc (.cells #[.bool b.no, .int .i64 b.lx, .int .i64 b.ly, .int .i64 b.hx, .int .i64 b.hy] 52))) := Lib.hid (by repeat (first | exact Below.refl _ _ | refine Below.drew ?_ | refine Below.alloc ?_ (by simp <;> omega) _))
  go_enter Tryd.func11, Tryd.ntmps11
  go_upto_region 1 with (fail)
  obtain ⟨W, hW⟩ : ∃ W, ((w.alloc (.cells #[.bool a.no, .int .i64 a.lx, .int .i64 a.ly, .int .i64 a.hx, .int .i64 a.hy] 52)).alloc (.cells #[.bool b.no, .int .i64 b.lx, .int .i64 b.ly, .int .i64 b.hx, .int .i64 b.hy] 52)) = W := ⟨_, rfl⟩
  rw [hW] at A B HB ⊢
  clear hW
  obtain ⟨a0, a1, a2, a3, a4⟩ := Blk.cells5 A
  obtain ⟨b0, b1, b2, b3, b4⟩ := Blk.cells5 B
  go_wp2_with fail
  refine (W1.out _).mono ?_
  rintro e w1 ⟨rfl, hb1⟩
  have A3 := Blk.bel A hb1
  have B3 := Blk.bel B hb1
  have HB3 := Lib.hid (bthen HB.out hb1)
  clear A B HB hb1 a0 a1 a2 a3 a4 b0 b1 b2 b3 b4 W1
  have b1 : (mt == mt) = true := beq_self_eq_true _
  have b2 : (hd == hd) = true := beq_self_eq_true _
  have b3 : (ev == ev) = true := beq_self_eq_true _
  have b4 : (gd == gd) = true := beq_self_eq_true _
  go_upto_region 2 with (fail)
  have X4 := Blk.new w1 #[.int .u64 (MWide.w0 wv), .int .u64 (MWide.w1 wv), .int .u64 (MWide.w2 wv)] 26
  have A4 := Blk.alloc A3 (.cells #[.int .u64 (MWide.w0 wv), .int .u64 (MWide.w1 wv), .int .u64 (MWide.w2 wv)] 26)
  have B4 := Blk.alloc B3 (.cells #[.int .u64 (MWide.w0 wv), .int .u64 (MWide.w1 wv), .int .u64 (MWide.w2 wv)] 26)
  have HB4 := Lib.hid (HB3.out.alloc HB3.out.size (.cells #[.int .u64 (MWide.w0 wv), .int .u64 (MWide.w1 wv), .int .u64 (MWide.w2 wv)] 26))
  obtain ⟨w2, hW⟩ : ∃ W, w1.alloc (.cells #[.int .u64 (MWide.w0 wv), .int .u64 (MWide.w1 wv), .int .u64 (MWide.w2 wv)] 26) = W := ⟨_, rfl⟩
  rw [hW] at A4 B4 X4 HB4 ⊢
  obtain ⟨g1, hg⟩ : ∃ g, w1.heap.size = g := ⟨_, rfl⟩
  rw [hg] at X4 ⊢
  clear hW hg A3 B3 HB3
  obtain ⟨a0, a1, a2, a3, a4⟩ := Blk.cells5 A4
  obtain ⟨c0, c1, c2, c3, c4⟩ := Blk.cells5 B4
  go_wp2_with fail
  refine (W2.out _).mono ?_
  rintro e w3 ⟨rfl, hb3⟩
  have A5 := Blk.bel A4 hb3
  have B5 := Blk.bel B4 hb3
  have X5 := Blk.bel X4 hb3
  have HB5 := Lib.hid (bthen HB4.out hb3)
  clear A4 B4 X4 HB4 hb3 a0 a1 a2 a3 a4 c0 c1 c2 c3 c4 W2
  go_upto_region 3 with (fail)
  have Y6 := Blk.new w3 #[.int .u64 (MWide.w0 wv), .int .u64 (MWide.w1 wv), .int .u64 (MWide.w2 wv)] 24
  have A6 := Blk.alloc A5 (.cells #[.int .u64 (MWide.w0 wv), .int .u64 (MWide.w1 wv), .int .u64 (MWide.w2 wv)] 24)
  have B6 := Blk.alloc B5 (.cells #[.int .u64 (MWide.w0 wv), .int .u64 (MWide.w1 wv), .int .u64 (MWide.w2 wv)] 24)
  have X6 := Blk.alloc X5 (.cells #[.int .u64 (MWide.w0 wv), .int .u64 (MWide.w1 wv), .int .u64 (MWide.w2 wv)] 24)
  have HB6 := Lib.hid (HB5.out.alloc HB5.out.size (.cells #[.int .u64 (MWide.w0 wv), .int .u64 (MWide.w1 wv), .int .u64 (MWide.w2 wv)] 24))
  obtain ⟨w4, hW⟩ : ∃ W, w3.alloc (.cells #[.int .u64 (MWide.w0 wv), .int .u64 (MWide.w1 wv), .int .u64 (MWide.w2 wv)] 24) = W := ⟨_, rfl⟩
  rw [hW] at A6 B6 X6 Y6 HB6 ⊢
  obtain ⟨g2, hg⟩ : ∃ g, w3.heap.size = g := ⟨_, rfl⟩
  rw [hg] at Y6 ⊢
  clear hW hg A5 B5 X5 HB5
  obtain ⟨a0, a1, a2, a3, a4⟩ := Blk.cells5 A6
  obtain ⟨c0, c1, c2, c3, c4⟩ := Blk.cells5 B6
  obtain ⟨x0, x1, x2⟩ := Blk.cells3 X6
  obtain ⟨y0, y1, y2⟩ := Blk.cells3 Y6
  have HBk := Lib.hid (Bel.refl w4)
  have hS0 := And.intro a0 (And.intro a1 (And.intro a2 (And.intro a3 (And.intro a4 (And.intro c0 (And.intro c1 (And.intro c2 (And.intro c3 (And.intro c4 (And.intro x0 (And.intro x1 (And.intro x2 (And.intro y0 (And.intro y1 (And.intro y2 (HBk.out))))))))))))))))
  dsimp only [List.append]
  go_region_held3 (fun w' => w'.cell? ⟨w.heap.size, 0, none⟩ = some (.bool a.no) ∧ w'.cell? ⟨w.heap.size, 1, none⟩ = some (.int .i64 a.lx) ∧ w'.cell? ⟨w.heap.size, 2, none⟩ = some (.int .i64 a.ly) ∧ w'.cell? ⟨w.heap.size, 3, none⟩ = some (.int .i64 a.hx) ∧ w'.cell? ⟨w.heap.size, 4, none⟩ = some (.int .i64 a.hy) ∧ w'.cell? ⟨w.heap.size + 1, 0, none⟩ = some (.bool b.no) ∧ w'.cell? ⟨w.heap.size + 1, 1, none⟩ = some (.int .i64 b.lx) ∧ w'.cell? ⟨w.heap.size + 1, 2, none⟩ = some (.int .i64 b.ly) ∧ w'.cell? ⟨w.heap.size + 1, 3, none⟩ = some (.int .i64 b.hx) ∧ w'.cell? ⟨w.heap.size + 1, 4, none⟩ = some (.int .i64 b.hy) ∧ w'.cell? ⟨g1, 0, none⟩ = some (.int .u64 (MWide.w0 wv)) ∧ w'.cell? ⟨g1, 1, none⟩ = some (.int .u64 (MWide.w1 wv)) ∧ w'.cell? ⟨g1, 2, none⟩ = some (.int .u64 (MWide.w2 wv)) ∧ w'.cell? ⟨g2, 0, none⟩ = some (.int .u64 (MWide.w0 wv)) ∧ w'.cell? ⟨g2, 1, none⟩ = some (.int .u64 (MWide.w1 wv)) ∧ w'.cell? ⟨g2, 2, none⟩ = some (.int .u64 (MWide.w2 wv)) ∧ Bel w4 w') (first | with_reducible exact kb16 hb (by assumption) | with_reducible exact kb16 (Bel.drew _) hS0)
    (first
    | (go_at_call 54; refine (HU.out _ _).mono ?_; rintro e w' ⟨rfl, hb⟩)
    | (go_at_call 27; refine (HL.out _).mono ?_; rintro e w' ⟨rfl, hb⟩)
    | (go_at_call 48; refine (D1.out _).mono ?_; rintro e w' ⟨rfl, hb⟩)
    | (go_at_call 49; refine (D2.out _).mono ?_; rintro e w' ⟨rfl, hb⟩)
    | (go_at_call 41; refine (U1.out _).mono ?_; rintro e w' ⟨rfl, hb⟩)
    | (go_at_call 50; refine (U2.out _).mono ?_; rintro e w' ⟨rfl, hb⟩)
    | (go_at_call 34; refine (M1.out _).mono ?_; rintro e w' ⟨rfl, hb⟩)
    | (go_at_call 51; refine (M2.out _).mono ?_; rintro e w' ⟨rfl, hb⟩)
    | (go_at_call 42; refine (H1.out _).mono ?_; rintro e w' ⟨rfl, hb⟩)
    | (go_at_call 52; refine (H2.out _).mono ?_; rintro e w' ⟨rfl, hb⟩)
    | (go_at_call 43; refine (E1.out _).mono ?_; rintro e w' ⟨rfl, hb⟩)
    | (go_at_call 53; refine (E2.out _).mono ?_; rintro e w' ⟨rfl, hb⟩)
    | (go_at_call 44; refine (A1.out _).mono ?_; rintro e w' ⟨rfl, hb⟩)
    | (go_at_call 55; refine (A2.out _).mono ?_; rintro e w' ⟨rfl, hb⟩)
    | (go_at_call 45; refine (G1.out _).mono ?_; rintro e w' ⟨rfl, hb⟩)
    | (go_at_call 56; refine (G2.out _).mono ?_; rintro e w' ⟨rfl, hb⟩))
  rename_i hheld
  obtain ⟨-, -, -, -, -, -, -, -, -, -, -, -, -, -, -, -, hend⟩ := hheld
  have HBf := Lib.hid (bthen HB6.out hend)
  clear hend hS0
  go_wp2
  go_ret
  exact ⟨rfl, HBf.out⟩

end Go.Proofs.YtakkifedcbhgfaaDoor.K
