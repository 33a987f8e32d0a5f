/- The law of layer 1 on sums and differences. -/
import Derived.Test.YtakkifedcbhgfaaDoorBase
import Derived.Handy
import Derived.Test.YtakkifedcbhgfaaDoorWLaw01b
namespace Go.Proofs.YtakkifedcbhgfaaDoor.K
open Go Go.RowKit Go.Proofs.YtakkifedcbhgfaaDoorW.PrintWords Go.Proofs.YtakkifedcbhgfaaDoorW.PrintLast Go.Proofs.YtakkifedcbhgfaaDoorW.PrintMore
set_option linter.unusedVariables false
set_option linter.unusedSimpArgs false
open Go.Proofs.YtakkifedcbhgfaaDoor.MWide (bt W64 U192 addV subV addOk subOk cry sumO bor difO cmpV width)
open Go.Proofs.YtakkifedcbhgfaaDoor.MText (padD dec strip)
theorem cell_set_ne (W : World) (j k : Nat) (u : Value) (g i : Nat) (h : g ≠ j) : (W.setCell ⟨j, k, none⟩ u).cell? ⟨g, i, none⟩ = W.cell? ⟨g, i, none⟩ := by
  have := Below.heap_setCell W ⟨j, k, none⟩ u g h
  simp only [World.cell?, this]
theorem cell_set3_ne {W : World} {j : Nat} {x y z : Value} {g i : Nat} {v : Value} (h : g ≠ j) (hc : W.cell? ⟨g, i, none⟩ = some v) : (((W.setCell ⟨j, 0, none⟩ x).setCell ⟨j, 1, none⟩ y).setCell ⟨j, 2, none⟩ z).cell? ⟨g, i, none⟩ = some v := by
  rw [cell_set_ne _ _ _ _ _ _ h, cell_set_ne _ _ _ _ _ _ h, cell_set_ne _ _ _ _ _ _ h]; exact hc
theorem kc3_set3 {wr w : World} {g j : Nat} {a b c x y z : Value} (hg : g ≠ j) (hj : wr.heap.size ≤ j) (hh : w.cell? ⟨g, 0, none⟩ = some a ∧ w.cell? ⟨g, 1, none⟩ = some b ∧ w.cell? ⟨g, 2, none⟩ = some c ∧ Bel wr w) :
    let W := ((w.setCell ⟨j, 0, none⟩ x).setCell ⟨j, 1, none⟩ y).setCell ⟨j, 2, none⟩ z
    W.cell? ⟨g, 0, none⟩ = some a ∧ W.cell? ⟨g, 1, none⟩ = some b ∧ W.cell? ⟨g, 2, none⟩ = some c ∧ Bel wr W := by
  obtain ⟨h1, h2, h3, h7⟩ := hh
  exact ⟨cell_set3_ne hg h1, cell_set3_ne hg h2, cell_set3_ne hg h3, below_set3 h7 hj _ _ _⟩
theorem kc6_set3 {wr w : World} {g h j : Nat} {a b c d e f x y z : Value} (hg : g ≠ j) (hh' : h ≠ j) (hj : wr.heap.size ≤ j) (hh : w.cell? ⟨g, 0, none⟩ = some a ∧ w.cell? ⟨g, 1, none⟩ = some b ∧ w.cell? ⟨g, 2, none⟩ = some c ∧ w.cell? ⟨h, 0, none⟩ = some d ∧ w.cell? ⟨h, 1, none⟩ = some e ∧ w.cell? ⟨h, 2, none⟩ = some f ∧ Bel wr w) :
    let W := ((w.setCell ⟨j, 0, none⟩ x).setCell ⟨j, 1, none⟩ y).setCell ⟨j, 2, none⟩ z
    W.cell? ⟨g, 0, none⟩ = some a ∧ W.cell? ⟨g, 1, none⟩ = some b ∧ W.cell? ⟨g, 2, none⟩ = some c ∧ W.cell? ⟨h, 0, none⟩ = some d ∧ W.cell? ⟨h, 1, none⟩ = some e ∧ W.cell? ⟨h, 2, none⟩ = some f ∧ Bel wr W := by
  obtain ⟨h1, h2, h3, h4, h5, h6, h7⟩ := hh
  exact ⟨cell_set3_ne hg h1, cell_set3_ne hg h2, cell_set3_ne hg h3, cell_set3_ne hh' h4, cell_set3_ne hh' h5, cell_set3_ne hh' h6, below_set3 h7 hj _ _ _⟩
theorem cell_re {W : World} {o o' : Obj} {g i : Nat} {v : Value} (hg : g < W.heap.size) (h : (W.alloc o).cell? ⟨g, i, none⟩ = some v) : (W.alloc o').cell? ⟨g, i, none⟩ = some v := by
  have h1 := ((Bel.refl W).alloc (Nat.le_refl _) o).cell (p := ⟨g, i, none⟩) hg
  have h2 := ((Bel.refl W).alloc (Nat.le_refl _) o').cell (p := ⟨g, i, none⟩) hg
  exact h2.trans (h1.symm.trans h)
theorem below_re {w0 W : World} {o o' : Obj} (hg : w0.heap.size ≤ W.heap.size) (h : Bel w0 (W.alloc o)) : Bel w0 (W.alloc o') :=
  ⟨h.os, h.tape, h.output, by simpa using Nat.le_trans hg (Nat.le_succ _), fun i hi => by
    have := h.block i hi
    rw [← this, Below.heap_alloc W o' i (by omega), Below.heap_alloc W o i (by omega)]⟩
theorem kc3_re {wr w : World} {o o' : Obj} {g : Nat} {a b c : Value} (hg : g < w.heap.size) (hj : wr.heap.size ≤ w.heap.size) (hh : (w.alloc o).cell? ⟨g, 0, none⟩ = some a ∧ (w.alloc o).cell? ⟨g, 1, none⟩ = some b ∧ (w.alloc o).cell? ⟨g, 2, none⟩ = some c ∧ Bel wr (w.alloc o)) :
    (w.alloc o').cell? ⟨g, 0, none⟩ = some a ∧ (w.alloc o').cell? ⟨g, 1, none⟩ = some b ∧ (w.alloc o').cell? ⟨g, 2, none⟩ = some c ∧ Bel wr (w.alloc o') := by
  obtain ⟨h1, h2, h3, h7⟩ := hh
  exact ⟨cell_re hg h1, cell_re hg h2, cell_re hg h3, below_re hj h7⟩
theorem kc6_re {wr w : World} {o o' : Obj} {g h : Nat} {a b c x y z : Value} (hg : g < w.heap.size) (hh' : h < w.heap.size) (hj : wr.heap.size ≤ w.heap.size) (hh : (w.alloc o).cell? ⟨g, 0, none⟩ = some a ∧ (w.alloc o).cell? ⟨g, 1, none⟩ = some b ∧ (w.alloc o).cell? ⟨g, 2, none⟩ = some c ∧ (w.alloc o).cell? ⟨h, 0, none⟩ = some x ∧ (w.alloc o).cell? ⟨h, 1, none⟩ = some y ∧ (w.alloc o).cell? ⟨h, 2, none⟩ = some z ∧ Bel wr (w.alloc o)) :
    (w.alloc o').cell? ⟨g, 0, none⟩ = some a ∧ (w.alloc o').cell? ⟨g, 1, none⟩ = some b ∧ (w.alloc o').cell? ⟨g, 2, none⟩ = some c ∧ (w.alloc o').cell? ⟨h, 0, none⟩ = some x ∧ (w.alloc o').cell? ⟨h, 1, none⟩ = some y ∧ (w.alloc o').cell? ⟨h, 2, none⟩ = some z ∧ Bel wr (w.alloc o') := by
  obtain ⟨h1, h2, h3, h4, h5, h6, h7⟩ := hh
  exact ⟨cell_re hg h1, cell_re hg h2, cell_re hg h3, cell_re hh' h4, cell_re hh' h5, cell_re hh' h6, below_re hj h7⟩
theorem kc18s {wr w w' : World} {g0 g1 g2 g3 g4 g5 : Nat} {v00 v01 v02 v10 v11 v12 v20 v21 v22 v30 v31 v32 v40 v41 v42 v50 v51 v52 : Value} (hb : Bel w w') (hh : w.cell? ⟨g0, 0, none⟩ = some v00 ∧ w.cell? ⟨g0, 1, none⟩ = some v01 ∧ w.cell? ⟨g0, 2, none⟩ = some v02 ∧ w.cell? ⟨g1, 0, none⟩ = some v10 ∧ w.cell? ⟨g1, 1, none⟩ = some v11 ∧ w.cell? ⟨g1, 2, none⟩ = some v12 ∧ w.cell? ⟨g2, 0, none⟩ = some v20 ∧ w.cell? ⟨g2, 1, none⟩ = some v21 ∧ w.cell? ⟨g2, 2, none⟩ = some v22 ∧ w.cell? ⟨g3, 0, none⟩ = some v30 ∧ w.cell? ⟨g3, 1, none⟩ = some v31 ∧ w.cell? ⟨g3, 2, none⟩ = some v32 ∧ w.cell? ⟨g4, 0, none⟩ = some v40 ∧ w.cell? ⟨g4, 1, none⟩ = some v41 ∧ w.cell? ⟨g4, 2, none⟩ = some v42 ∧ w.cell? ⟨g5, 0, none⟩ = some v50 ∧ w.cell? ⟨g5, 1, none⟩ = some v51 ∧ w.cell? ⟨g5, 2, none⟩ = some v52 ∧ Bel wr w) : w'.cell? ⟨g0, 0, none⟩ = some v00 ∧ w'.cell? ⟨g0, 1, none⟩ = some v01 ∧ w'.cell? ⟨g0, 2, none⟩ = some v02 ∧ w'.cell? ⟨g1, 0, none⟩ = some v10 ∧ w'.cell? ⟨g1, 1, none⟩ = some v11 ∧ w'.cell? ⟨g1, 2, none⟩ = some v12 ∧ w'.cell? ⟨g2, 0, none⟩ = some v20 ∧ w'.cell? ⟨g2, 1, none⟩ = some v21 ∧ w'.cell? ⟨g2, 2, none⟩ = some v22 ∧ w'.cell? ⟨g3, 0, none⟩ = some v30 ∧ w'.cell? ⟨g3, 1, none⟩ = some v31 ∧ w'.cell? ⟨g3, 2, none⟩ = some v32 ∧ w'.cell? ⟨g4, 0, none⟩ = some v40 ∧ w'.cell? ⟨g4, 1, none⟩ = some v41 ∧ w'.cell? ⟨g4, 2, none⟩ = some v42 ∧ w'.cell? ⟨g5, 0, none⟩ = some v50 ∧ w'.cell? ⟨g5, 1, none⟩ = some v51 ∧ w'.cell? ⟨g5, 2, none⟩ = some v52 ∧ Bel wr w' := by
  obtain ⟨h00, h01, h02, h10, h11, h12, h20, h21, h22, h30, h31, h32, h40, h41, h42, h50, h51, h52, hz⟩ := hh
  exact ⟨kc hb h00, kc hb h01, kc hb h02, kc hb h10, kc hb h11, kc hb h12, kc hb h20, kc hb h21, kc hb h22, kc hb h30, kc hb h31, kc hb h32, kc hb h40, kc hb h41, kc hb h42, kc hb h50, kc hb h51, kc hb h52, bthen hz hb⟩
theorem trip_cells {w : World} {x : Int × Int × Int} {cs : Array Value} (h : (Kd.pair (Kd.int .u64) (Kd.pair (Kd.int .u64) (Kd.int .u64))).K w x cs.toList) : cs = #[.int .u64 x.1, .int .u64 x.2.1, .int .u64 x.2.2] := by
  obtain ⟨c1, c2, e, h1, c3, c4, e2, h2, h3⟩ := h
  obtain rfl : c1 = [.int .u64 x.1] := h1
  obtain rfl : c3 = [.int .u64 x.2.1] := h2
  obtain rfl : c4 = [.int .u64 x.2.2] := h3
  apply Array.toList_inj.1
  rw [e, e2]
  rfl
/-- An argument of three words, as a number. -/
theorem u_arg {w : World} {x : Int × Int × Int} {cs : Array Value} (h : (Kd.pair (Kd.int .u64) (Kd.pair (Kd.int .u64) (Kd.int .u64))).K w x cs.toList)
    (hq : (Lit.int .u64 x.1).wf = true ∧ (Lit.int .u64 x.2.1).wf = true ∧ (Lit.int .u64 x.2.2).wf = true) : ∃ a, U192 a ∧ cs = #[.int .u64 (MWide.w0 a), .int .u64 (MWide.w1 a), .int .u64 (MWide.w2 a)] := by
  obtain ⟨h0, h1, h2⟩ := hq
  have h0 := wf_u64 h0; have h1 := wf_u64 h1; have h2 := wf_u64 h2
  refine ⟨MWide.of3 x.1 x.2.1 x.2.2, MWide.of3_u h0 h1 h2, ?_⟩
  rw [MWide.w0_of3 h0 h1 h2, MWide.w1_of3 h0 h1 h2, MWide.w2_of3 h0 h1 h2]
  exact trip_cells h
set_option maxHeartbeats 2000000 in
set_option maxRecDepth 100000 in
theorem WideAdds_calls {w : World} (cs : Array Value) (x : Int × Int × Int) (hK : (Kd.pair (Kd.int .u64) (Kd.pair (Kd.int .u64) (Kd.int .u64))).K w x cs.toList) (hq : (Lit.int .u64 x.1).wf = true ∧ (Lit.int .u64 x.2.1).wf = true ∧ (Lit.int .u64 x.2.2).wf = true)
    (ds : Array Value) (y : Int × Int × Int) (hK' : (Kd.pair (Kd.int .u64) (Kd.pair (Kd.int .u64) (Kd.int .u64))).K w y ds.toList) (hq' : (Lit.int .u64 y.1).wf = true ∧ (Lit.int .u64 y.2.1).wf = true ∧ (Lit.int .u64 y.2.2).wf = true) :
    Calls Tryd.prog 8 #[.agg cs, .agg ds] w fun e w' => e = .returned (.bool true) ∧ Below w.heap.size w w' := by
  obtain ⟨a, ha, rfl⟩ := u_arg hK hq
  obtain ⟨b, hb, rfl⟩ := u_arg hK' hq'
  clear hK hq hK' hq'
  have HA := Lib.hid (fun w => Add_calls a b w ha hb)
  have HRA := Lib.hid (fun w => refAdd_calls a b w ha hb)
  have HS := Lib.hid (fun w => Sub_calls a b w ha hb)
  have HRS := Lib.hid (fun w => refSub_calls a b w ha hb)
  have HC := Lib.hid (fun w => Cmp_calls a b w ha hb)
  have HRC := Lib.hid (fun w => refCmp_calls a b w ha hb)
  have HW := Lib.hid (fun w => Bits_calls a w ha)
  have HRW := Lib.hid (fun w => refWidth_calls a w ha)
  have HL := Lib.hid lives01
  have HU := Lib.hid u_calls
  obtain ⟨s, hs⟩ : ∃ s, addV a b = s := ⟨_, rfl⟩
  obtain ⟨so, hso⟩ : ∃ s, addOk a b = s := ⟨_, rfl⟩
  obtain ⟨d, hd⟩ : ∃ s, subV a b = s := ⟨_, rfl⟩
  obtain ⟨dk, hdk⟩ : ∃ s, subOk a b = s := ⟨_, rfl⟩
  obtain ⟨cv, hcv⟩ : ∃ s, cmpV a b = s := ⟨_, rfl⟩
  obtain ⟨wv, hwv⟩ : ∃ s, width a = s := ⟨_, rfl⟩
  rw [hs, hso] at HA HRA
  rw [hd, hdk] at HS HRS
  rw [hcv] at HC HRC
  rw [hwv] at HW HRW
  have q1 := eqU24 s
  have q2 := eqU24 d
  have b1 : (so == so) = true := beq_self_eq_true _
  have b2 : (dk == dk) = true := beq_self_eq_true _
  have b3 : (cv == cv) = true := beq_self_eq_true _
  have b4 : (wv == wv) = true := beq_self_eq_true _
  clear ha hb hs hso hd hdk hcv hwv
  go_enter Tryd.func8, Tryd.ntmps8
  go_wp2_with fail
  refine (HA.out _).mono ?_
  rintro e w1 ⟨rfl, hb1⟩
  have A1 := Blk.bel ((Blk.new w #[.int .u64 (MWide.w0 a), .int .u64 (MWide.w1 a), .int .u64 (MWide.w2 a)] 26).alloc _) hb1
  have B1 := Blk.bel (Blk.new_at (g := w.heap.size + 1) (by simp) #[.int .u64 (MWide.w0 b), .int .u64 (MWide.w1 b), .int .u64 (MWide.w2 b)] 26) hb1
  have HB1 : Hid (Below w.heap.size w w1) := Lib.hid (bthen (by repeat (first | exact Below.refl _ _ | refine Below.drew ?_ | refine Below.alloc ?_ (by simp <;> omega) _)) hb1)
  clear hb1
  go_upto_region 2 with (fail)
  have N1 := Blk.new w1 #[.int .u64 (MWide.w0 s), .int .u64 (MWide.w1 s), .int .u64 (MWide.w2 s)] 26
  have A1n := A1.alloc (.cells #[.int .u64 (MWide.w0 s), .int .u64 (MWide.w1 s), .int .u64 (MWide.w2 s)] 26)
  have B1n := B1.alloc (.cells #[.int .u64 (MWide.w0 s), .int .u64 (MWide.w1 s), .int .u64 (MWide.w2 s)] 26)
  have HB1n := Lib.hid (HB1.out.alloc HB1.out.size (.cells #[.int .u64 (MWide.w0 s), .int .u64 (MWide.w1 s), .int .u64 (MWide.w2 s)] 26))
  obtain ⟨w2, hw2⟩ : ∃ x, w1.alloc (.cells #[.int .u64 (MWide.w0 s), .int .u64 (MWide.w1 s), .int .u64 (MWide.w2 s)] 26) = x := ⟨_, rfl⟩
  rw [hw2] at N1 A1n B1n HB1n ⊢
  clear hw2 A1 B1 HB1
  have A1 := A1n
  have B1 := B1n
  clear A1n B1n
  have HB1 := HB1n
  clear HB1n
  obtain ⟨a0, a1, a2⟩ := A1.cells3
  obtain ⟨b0, b1, b2⟩ := B1.cells3
  have hlt := A1.lt
  have hlt2 := B1.lt
  have hdr : w2.drew.heap.size = w2.heap.size := rfl
  have hS0 : w2.cell? ⟨w.heap.size, 0, none⟩ = some (.int .u64 (MWide.w0 a)) ∧ w2.cell? ⟨w.heap.size, 1, none⟩ = some (.int .u64 (MWide.w1 a)) ∧ w2.cell? ⟨w.heap.size, 2, none⟩ = some (.int .u64 (MWide.w2 a)) ∧ w2.cell? ⟨w.heap.size + 1, 0, none⟩ = some (.int .u64 (MWide.w0 b)) ∧ w2.cell? ⟨w.heap.size + 1, 1, none⟩ = some (.int .u64 (MWide.w1 b)) ∧ w2.cell? ⟨w.heap.size + 1, 2, none⟩ = some (.int .u64 (MWide.w2 b)) ∧ Bel w2 w2 := ⟨a0, a1, a2, b0, b1, b2, Bel.refl _⟩
  go_cut [7, 8] (fun p ok w' => ∃ g, p = .pointer (some ⟨g, 0, none⟩) ∧ ok = .bool so ∧ Hid (w2.heap.size ≤ g) ∧ Hid (Bel w2 w') ∧ Blk w' g #[.int .u64 (MWide.w0 s), .int .u64 (MWide.w1 s), .int .u64 (MWide.w2 s)] 24)
  case first =>
    go_wp2_with fail
    go_region_held3 (fun w' => w'.cell? ⟨w.heap.size, 0, none⟩ = some (.int .u64 (MWide.w0 a)) ∧ w'.cell? ⟨w.heap.size, 1, none⟩ = some (.int .u64 (MWide.w1 a)) ∧ w'.cell? ⟨w.heap.size, 2, none⟩ = some (.int .u64 (MWide.w2 a)) ∧ w'.cell? ⟨w.heap.size + 1, 0, none⟩ = some (.int .u64 (MWide.w0 b)) ∧ w'.cell? ⟨w.heap.size + 1, 1, none⟩ = some (.int .u64 (MWide.w1 b)) ∧ w'.cell? ⟨w.heap.size + 1, 2, none⟩ = some (.int .u64 (MWide.w2 b)) ∧ Bel w2 w') (first | with_reducible exact kc6 hb (by assumption) | with_reducible exact kc6 (Bel.drew _) hS0 | with_reducible exact kc6_re (by omega) (by omega) (by omega) (by assumption) | with_reducible exact kc6 ((Bel.refl _).alloc (Nat.le_refl _) _) (by assumption) | with_reducible exact kc6_set3 (by omega) (by omega) (by omega) (by assumption))
      (first
        | (go_at_call 13; refine (HU.out _ _).mono ?_; rintro e w' ⟨rfl, hb⟩; have hzz := hb.size; (first | (have O := Blk.bel O hb) | (have O := Blk.bel (Blk.new _ _ _) hb) | (have O := Blk.bel (Blk.drew (Blk.new _ _ _)) hb) | skip))
        | (go_at_call 35; refine (HRA.out _).mono ?_; rintro e w' ⟨rfl, hb⟩; have hzz := hb.size; (first | (have O := Blk.bel O hb) | (have O := Blk.bel (Blk.new _ _ _) hb) | (have O := Blk.bel (Blk.drew (Blk.new _ _ _)) hb) | skip); (first | (obtain ⟨o0, o1, o2⟩ := O.cells3; have f0 := O.froz 0; have f1 := O.froz 1; have f2 := O.froz 2) | skip)))
    all_goals
      rename_i hheld
      go_wp2_with fail
      go_meet
      first
        | exact ⟨_, rfl, rfl, Lib.hid (by omega), Lib.hid hheld.2.2.2.2.2.2, Blk.set3 O⟩
        | exact ⟨_, rfl, rfl, Lib.hid (by omega), Lib.hid hheld.2.2.2.2.2.2, Blk.new _ _ _⟩
  clear a0 a1 a2 b0 b1 b2 hS0 hdr
  obtain ⟨g1, rfl, rfl, HG1, HBl, T1⟩ := hcut
  have A2 := A1.bel HBl.out
  have B2 := B1.bel HBl.out
  have N2 := N1.bel HBl.out
  have HB2 := Lib.hid (bthen HB1.out HBl.out)
  clear A1 B1 N1 HB1 HG1 HBl
  obtain ⟨a0, a1, a2⟩ := A2.cells3
  obtain ⟨b0, b1, b2⟩ := B2.cells3
  go_wp2_with fail
  refine (HS.out _).mono ?_
  rintro e w4 ⟨rfl, hb4⟩
  have A1 := A2.bel hb4
  have B1 := B2.bel hb4
  have N1 := N2.bel hb4
  have T2 := T1.bel hb4
  have HB3 := Lib.hid (bthen HB2.out hb4)
  clear A2 B2 N2 T1 HB2 hb4 a0 a1 a2 b0 b1 b2
  go_upto_region 4 with (fail)
  have N3 := Blk.new w4 #[.int .u64 (MWide.w0 d), .int .u64 (MWide.w1 d), .int .u64 (MWide.w2 d)] 26
  have A1n := A1.alloc (.cells #[.int .u64 (MWide.w0 d), .int .u64 (MWide.w1 d), .int .u64 (MWide.w2 d)] 26)
  have B1n := B1.alloc (.cells #[.int .u64 (MWide.w0 d), .int .u64 (MWide.w1 d), .int .u64 (MWide.w2 d)] 26)
  have N1n := N1.alloc (.cells #[.int .u64 (MWide.w0 d), .int .u64 (MWide.w1 d), .int .u64 (MWide.w2 d)] 26)
  have T2n := T2.alloc (.cells #[.int .u64 (MWide.w0 d), .int .u64 (MWide.w1 d), .int .u64 (MWide.w2 d)] 26)
  have HB3n := Lib.hid (HB3.out.alloc HB3.out.size (.cells #[.int .u64 (MWide.w0 d), .int .u64 (MWide.w1 d), .int .u64 (MWide.w2 d)] 26))
  obtain ⟨w5, hw5⟩ : ∃ x, w4.alloc (.cells #[.int .u64 (MWide.w0 d), .int .u64 (MWide.w1 d), .int .u64 (MWide.w2 d)] 26) = x := ⟨_, rfl⟩
  rw [hw5] at N3 A1n B1n N1n T2n HB3n ⊢
  clear hw5 A1 B1 N1 T2 HB3
  have A1 := A1n
  have B1 := B1n
  have N1 := N1n
  have T2 := T2n
  clear A1n B1n N1n T2n
  have HB3 := HB3n
  clear HB3n
  obtain ⟨a0, a1, a2⟩ := A1.cells3
  obtain ⟨b0, b1, b2⟩ := B1.cells3
  have hlt := A1.lt
  have hlt2 := B1.lt
  have hdr : w5.drew.heap.size = w5.heap.size := rfl
  have hS0 : w5.cell? ⟨w.heap.size, 0, none⟩ = some (.int .u64 (MWide.w0 a)) ∧ w5.cell? ⟨w.heap.size, 1, none⟩ = some (.int .u64 (MWide.w1 a)) ∧ w5.cell? ⟨w.heap.size, 2, none⟩ = some (.int .u64 (MWide.w2 a)) ∧ w5.cell? ⟨w.heap.size + 1, 0, none⟩ = some (.int .u64 (MWide.w0 b)) ∧ w5.cell? ⟨w.heap.size + 1, 1, none⟩ = some (.int .u64 (MWide.w1 b)) ∧ w5.cell? ⟨w.heap.size + 1, 2, none⟩ = some (.int .u64 (MWide.w2 b)) ∧ Bel w5 w5 := ⟨a0, a1, a2, b0, b1, b2, Bel.refl _⟩
  go_cut [11, 12] (fun p ok w' => ∃ g, p = .pointer (some ⟨g, 0, none⟩) ∧ ok = .bool dk ∧ Hid (w5.heap.size ≤ g) ∧ Hid (Bel w5 w') ∧ Blk w' g #[.int .u64 (MWide.w0 d), .int .u64 (MWide.w1 d), .int .u64 (MWide.w2 d)] 24)
  case first =>
    go_wp2_with fail
    go_region_held3 (fun w' => w'.cell? ⟨w.heap.size, 0, none⟩ = some (.int .u64 (MWide.w0 a)) ∧ w'.cell? ⟨w.heap.size, 1, none⟩ = some (.int .u64 (MWide.w1 a)) ∧ w'.cell? ⟨w.heap.size, 2, none⟩ = some (.int .u64 (MWide.w2 a)) ∧ w'.cell? ⟨w.heap.size + 1, 0, none⟩ = some (.int .u64 (MWide.w0 b)) ∧ w'.cell? ⟨w.heap.size + 1, 1, none⟩ = some (.int .u64 (MWide.w1 b)) ∧ w'.cell? ⟨w.heap.size + 1, 2, none⟩ = some (.int .u64 (MWide.w2 b)) ∧ Bel w5 w') (first | with_reducible exact kc6 hb (by assumption) | with_reducible exact kc6 (Bel.drew _) hS0 | with_reducible exact kc6_re (by omega) (by omega) (by omega) (by assumption) | with_reducible exact kc6 ((Bel.refl _).alloc (Nat.le_refl _) _) (by assumption) | with_reducible exact kc6_set3 (by omega) (by omega) (by omega) (by assumption))
      (first
        | (go_at_call 13; refine (HU.out _ _).mono ?_; rintro e w' ⟨rfl, hb⟩; have hzz := hb.size; (first | (have O := Blk.bel O hb) | (have O := Blk.bel (Blk.new _ _ _) hb) | (have O := Blk.bel (Blk.drew (Blk.new _ _ _)) hb) | skip))
        | (go_at_call 37; refine (HRS.out _).mono ?_; rintro e w' ⟨rfl, hb⟩; have hzz := hb.size; (first | (have O := Blk.bel O hb) | (have O := Blk.bel (Blk.new _ _ _) hb) | (have O := Blk.bel (Blk.drew (Blk.new _ _ _)) hb) | skip); (first | (obtain ⟨o0, o1, o2⟩ := O.cells3; have f0 := O.froz 0; have f1 := O.froz 1; have f2 := O.froz 2) | skip)))
    all_goals
      rename_i hheld
      go_wp2_with fail
      go_meet
      first
        | exact ⟨_, rfl, rfl, Lib.hid (by omega), Lib.hid hheld.2.2.2.2.2.2, Blk.set3 O⟩
        | exact ⟨_, rfl, rfl, Lib.hid (by omega), Lib.hid hheld.2.2.2.2.2.2, Blk.new _ _ _⟩
  clear a0 a1 a2 b0 b1 b2 hS0 hdr
  obtain ⟨g2, rfl, rfl, HG2, HBl, T4⟩ := hcut
  have A2 := A1.bel HBl.out
  have B2 := B1.bel HBl.out
  have N2 := N1.bel HBl.out
  have T3 := T2.bel HBl.out
  have N4 := N3.bel HBl.out
  have HB4 := Lib.hid (bthen HB3.out HBl.out)
  have HBk := HBl
  clear A1 B1 N1 T2 N3 HG2 HBl
  obtain ⟨a0, a1, a2⟩ := A2.cells3
  obtain ⟨b0, b1, b2⟩ := B2.cells3
  obtain ⟨c0, c1, c2⟩ := N2.cells3
  obtain ⟨d0, d1, d2⟩ := T3.cells3
  obtain ⟨e0, e1, e2⟩ := N4.cells3
  obtain ⟨f0, f1, f2⟩ := T4.cells3
  go_upto_region 5 with (fail)
  have hS0 := (And.intro a0 (And.intro a1 (And.intro a2 (And.intro b0 (And.intro b1 (And.intro b2 (And.intro c0 (And.intro c1 (And.intro c2 (And.intro d0 (And.intro d1 (And.intro d2 (And.intro e0 (And.intro e1 (And.intro e2 (And.intro f0 (And.intro f1 (And.intro f2 HBk.out))))))))))))))))))
  go_region_held3 (fun w' => w'.cell? ⟨w.heap.size, 0, none⟩ = some (.int .u64 (MWide.w0 a)) ∧ w'.cell? ⟨w.heap.size, 1, none⟩ = some (.int .u64 (MWide.w1 a)) ∧ w'.cell? ⟨w.heap.size, 2, none⟩ = some (.int .u64 (MWide.w2 a)) ∧ w'.cell? ⟨w.heap.size + 1, 0, none⟩ = some (.int .u64 (MWide.w0 b)) ∧ w'.cell? ⟨w.heap.size + 1, 1, none⟩ = some (.int .u64 (MWide.w1 b)) ∧ w'.cell? ⟨w.heap.size + 1, 2, none⟩ = some (.int .u64 (MWide.w2 b)) ∧ w'.cell? ⟨w1.heap.size, 0, none⟩ = some (.int .u64 (MWide.w0 s)) ∧ w'.cell? ⟨w1.heap.size, 1, none⟩ = some (.int .u64 (MWide.w1 s)) ∧ w'.cell? ⟨w1.heap.size, 2, none⟩ = some (.int .u64 (MWide.w2 s)) ∧ w'.cell? ⟨g1, 0, none⟩ = some (.int .u64 (MWide.w0 s)) ∧ w'.cell? ⟨g1, 1, none⟩ = some (.int .u64 (MWide.w1 s)) ∧ w'.cell? ⟨g1, 2, none⟩ = some (.int .u64 (MWide.w2 s)) ∧ w'.cell? ⟨w4.heap.size, 0, none⟩ = some (.int .u64 (MWide.w0 d)) ∧ w'.cell? ⟨w4.heap.size, 1, none⟩ = some (.int .u64 (MWide.w1 d)) ∧ w'.cell? ⟨w4.heap.size, 2, none⟩ = some (.int .u64 (MWide.w2 d)) ∧ w'.cell? ⟨g2, 0, none⟩ = some (.int .u64 (MWide.w0 d)) ∧ w'.cell? ⟨g2, 1, none⟩ = some (.int .u64 (MWide.w1 d)) ∧ w'.cell? ⟨g2, 2, none⟩ = some (.int .u64 (MWide.w2 d)) ∧ Bel w5 w') (first | with_reducible exact kc18s hb (by assumption) | with_reducible exact kc18s (Bel.drew _) hS0)
    (first
      | (go_at_call 13; refine (HU.out _ _).mono ?_; rintro e w' ⟨rfl, hb⟩)
      | (go_at_call 19; refine (HL.out _).mono ?_; rintro e w' ⟨rfl, hb⟩)
      | (go_at_call 25; refine (HC.out _).mono ?_; rintro e w' ⟨rfl, hb⟩)
      | (go_at_call 38; refine (HRC.out _).mono ?_; rintro e w' ⟨rfl, hb⟩)
      | (go_at_call 39; refine (HW.out _).mono ?_; rintro e w' ⟨rfl, hb⟩)
      | (go_at_call 40; refine (HRW.out _).mono ?_; rintro e w' ⟨rfl, hb⟩))
  rename_i hheld
  obtain ⟨-, -, -, -, -, -, -, -, -, -, -, -, -, -, -, -, -, -, hend⟩ := hheld
  have HBf := Lib.hid (bthen HB3.out hend)
  clear hend hS0
  go_wp2
  go_ret
  exact ⟨rfl, HBf.out⟩

end Go.Proofs.YtakkifedcbhgfaaDoor.K
