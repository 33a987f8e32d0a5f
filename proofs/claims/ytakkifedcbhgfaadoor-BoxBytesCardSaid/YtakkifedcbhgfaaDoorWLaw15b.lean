/- The law BoxHolds. -/
import Derived.Test.YtakkifedcbhgfaaDoorKB
import Derived.Handy
import Derived.Test.YtakkifedcbhgfaaDoorWLaw15a
namespace Go.Proofs.YtakkifedcbhgfaaDoor.K
open Go Go.RowKit Go.Proofs.YtakkifedcbhgfaaDoorW.PrintWords Go.Proofs.YtakkifedcbhgfaaDoorW.PrintLast Go.Proofs.YtakkifedcbhgfaaDoorW.PrintMore
set_option linter.unusedVariables false
set_option linter.unusedSimpArgs false
open Go.Proofs.YtakkifedcbhgfaaDoor.MWide (W64 U192 addV subV addOk subOk cmpV)
open Go.Proofs.YtakkifedcbhgfaaDoor.MBox (Bx I64)
theorem holds_is (a b : Bx) (r : Bool) (w : World) (h : MBox.holds a b = r) : Calls Tryd.prog 42 #[.agg #[.bool a.no, .int .i64 a.lx, .int .i64 a.ly, .int .i64 a.hx, .int .i64 a.hy], .agg #[.bool b.no, .int .i64 b.lx, .int .i64 b.ly, .int .i64 b.hx, .int .i64 b.hy]] w fun e w' => e = .returned (.bool r) ∧ Bel w w' := h ▸ holds_calls a b w
theorem meets_is (a b : Bx) (r : Bool) (w : World) (h : MBox.meets a b = r) : Calls Tryd.prog 34 #[.agg #[.bool a.no, .int .i64 a.lx, .int .i64 a.ly, .int .i64 a.hx, .int .i64 a.hy], .agg #[.bool b.no, .int .i64 b.lx, .int .i64 b.ly, .int .i64 b.hx, .int .i64 b.hy]] w fun e w' => e = .returned (.bool r) ∧ Bel w w' := h ▸ meets_calls a b w
theorem equal_is (a b : Bx) (r : Bool) (w : World) (h : MBox.equal a b = r) : Calls Tryd.prog 43 #[.agg #[.bool a.no, .int .i64 a.lx, .int .i64 a.ly, .int .i64 a.hx, .int .i64 a.hy], .agg #[.bool b.no, .int .i64 b.lx, .int .i64 b.ly, .int .i64 b.hx, .int .i64 b.hy]] w fun e w' => e = .returned (.bool r) ∧ Bel w w' := h ▸ equal_calls a b w
theorem union_is (a b r : Bx) (w : World) (h : MBox.union a b = r) : Calls Tryd.prog 41 #[.agg #[.bool a.no, .int .i64 a.lx, .int .i64 a.ly, .int .i64 a.hx, .int .i64 a.hy], .agg #[.bool b.no, .int .i64 b.lx, .int .i64 b.ly, .int .i64 b.hx, .int .i64 b.hy]] w fun e w' => e = .returned (.agg #[.bool r.no, .int .i64 r.lx, .int .i64 r.ly, .int .i64 r.hx, .int .i64 r.hy]) ∧ Bel w w' := h ▸ union_calls a b w
theorem eqU26_any {x y : Int} (hx : U192 x) (hy : U192 y) (w : World) : (binOp .eql 26 (.agg #[.int .u64 (MWide.w0 x), .int .u64 (MWide.w1 x), .int .u64 (MWide.w2 x)]) (.agg #[.int .u64 (MWide.w0 y), .int .u64 (MWide.w1 y), .int .u64 (MWide.w2 y)])).run Tryd.prog w = .ok (.bool (x == y)) w := by
  rw [eq3 26 u26, eqU hx hy]
theorem eqU26_zero {x : Int} (hx : U192 x) (w : World) : (binOp .eql 26 (.agg #[.int .u64 (MWide.w0 x), .int .u64 (MWide.w1 x), .int .u64 (MWide.w2 x)]) (.agg #[.int .u64 0, .int .u64 0, .int .u64 0])).run Tryd.prog w = .ok (.bool (x == 0)) w :=
  eqU26_any hx (y := 0) (by unfold U192; omega) w
theorem BoxHolds_plain (a b : Bx) : (MBox.growth a b == 0) = (MBox.area (MBox.union a b) == MBox.area a) := by
  rw [Bool.eq_iff_iff, beq_iff_eq, beq_iff_eq]; exact MBox.growth_zero a b
set_option maxHeartbeats 8000000 in
set_option maxRecDepth 100000 in
theorem BoxHolds_calls {w : World} (cs : Array Value) (x : Bool × (Int × Int) × (Int × Int)) (hK : (Kd.pair Kd.bool (Kd.pair (Kd.pair (Kd.int .i64) (Kd.int .i64)) (Kd.pair (Kd.int .i64) (Kd.int .i64)))).K w x cs.toList) (hq : True ∧ ((Lit.int .i64 x.2.1.1).wf = true ∧ (Lit.int .i64 x.2.1.2).wf = true) ∧ ((Lit.int .i64 x.2.2.1).wf = true ∧ (Lit.int .i64 x.2.2.2).wf = true)) (ds : Array Value) (y : Bool × (Int × Int) × (Int × Int)) (hK' : (Kd.pair Kd.bool (Kd.pair (Kd.pair (Kd.int .i64) (Kd.int .i64)) (Kd.pair (Kd.int .i64) (Kd.int .i64)))).K w y ds.toList) (hq' : True ∧ ((Lit.int .i64 y.2.1.1).wf = true ∧ (Lit.int .i64 y.2.1.2).wf = true) ∧ ((Lit.int .i64 y.2.2.1).wf = true ∧ (Lit.int .i64 y.2.2.2).wf = true)) (es : Array Value) (z : Bool × (Int × Int) × (Int × Int)) (hK'' : (Kd.pair Kd.bool (Kd.pair (Kd.pair (Kd.int .i64) (Kd.int .i64)) (Kd.pair (Kd.int .i64) (Kd.int .i64)))).K w z es.toList) (hq'' : True ∧ ((Lit.int .i64 z.2.1.1).wf = true ∧ (Lit.int .i64 z.2.1.2).wf = true) ∧ ((Lit.int .i64 z.2.2.1).wf = true ∧ (Lit.int .i64 z.2.2.2).wf = true)) :
    Calls Tryd.prog 9 #[.agg cs, .agg ds, .agg es] w fun e w' => e = .returned (.bool true) ∧ Below w.heap.size w w' := by
  obtain ⟨a, ha, rfl⟩ := box_arg hK hq
  obtain ⟨b, hb, rfl⟩ := box_arg hK' hq'
  obtain ⟨c, hc, rfl⟩ := box_arg hK'' hq''
  clear hK hq hK' hq' hK'' hq''
  have p1 := MBox.holds_l a b
  have p2 := MBox.holds_r a b
  have p3 : MBox.meets a c = true → MBox.meets (MBox.union a b) c = true := MBox.meets_union b
  have p4 : MBox.holds a b = true → MBox.equal (MBox.union a b) a = true := MBox.holds_equal
  have p5 := BoxHolds_plain a b
  have p6 := MBox.meets_comm b a
  have p7 := MBox.union_comm b a
  have hun := MBox.union_ok ha hb
  have hg := MBox.growth_u ha hb
  have q1 := eqU26_any (MBox.area_192 hun) (MBox.area_192 ha)
  have q2 := eqU26_zero hg
  rw [p5] at q2
  have q3 := eqB (MBox.union a b) (MBox.union a b)
  rw [MBox.same_refl] at q3
  have G1 := Lib.hid (fun w => growth_calls a b w ha hb)
  have HO := Lib.hid holds_is
  have HM := Lib.hid meets_is
  have HE := Lib.hid equal_is
  have HU := Lib.hid union_is
  have HA := Lib.hid Area_is
  have HL := Lib.hid lives15
  obtain ⟨n, hn⟩ : ∃ n, MBox.union a b = n := ⟨_, rfl⟩
  rw [hn] at p1 p2 p3 p4 p5 p7 hun q1 q2 q3
  obtain ⟨an, han⟩ : ∃ v, MBox.area n = v := ⟨_, rfl⟩
  obtain ⟨aa, haa⟩ : ∃ v, MBox.area a = v := ⟨_, rfl⟩
  obtain ⟨gv, hgv⟩ : ∃ v, MBox.growth a b = v := ⟨_, rfl⟩
  rw [hgv] at G1 q2
  rw [han, haa] at q1 q2
  obtain ⟨sm, hsm⟩ : ∃ u, (an == aa) = u := ⟨_, rfl⟩
  rw [hsm] at q1 q2
  obtain ⟨m1, hm1⟩ : ∃ u, MBox.meets a c = u := ⟨_, rfl⟩
  obtain ⟨m3, hm3⟩ : ∃ u, MBox.meets a b = u := ⟨_, rfl⟩
  obtain ⟨hd, hhd⟩ : ∃ u, MBox.holds a b = u := ⟨_, rfl⟩
  rw [hm3] at p6
  rw [hm1] at p3
  rw [hhd] at p4
  have b1 : (sm == sm) = true := beq_self_eq_true _
  have b2 : (m3 == m3) = true := beq_self_eq_true _
  clear p5 hsm hgv hg hb hc
  have A := ((Blk.new w #[.bool a.no, .int .i64 a.lx, .int .i64 a.ly, .int .i64 a.hx, .int .i64 a.hy] 52).alloc (.cells #[.bool b.no, .int .i64 b.lx, .int .i64 b.ly, .int .i64 b.hx, .int .i64 b.hy] 52)).alloc (.cells #[.bool c.no, .int .i64 c.lx, .int .i64 c.ly, .int .i64 c.hx, .int .i64 c.hy] 52)
  have B := (Blk.new_at (W := (w.alloc (.cells #[.bool a.no, .int .i64 a.lx, .int .i64 a.ly, .int .i64 a.hx, .int .i64 a.hy] 52))) (g := w.heap.size + 1) (by simp) #[.bool b.no, .int .i64 b.lx, .int .i64 b.ly, .int .i64 b.hx, .int .i64 b.hy] 52).alloc (.cells #[.bool c.no, .int .i64 c.lx, .int .i64 c.ly, .int .i64 c.hx, .int .i64 c.hy] 52)
  have C := Blk.new_at (W := ((w.alloc (.cells #[.bool a.no, .int .i64 a.lx, .int .i64 a.ly, .int .i64 a.hx, .int .i64 a.hy] 52)).alloc (.cells #[.bool b.no, .int .i64 b.lx, .int .i64 b.ly, .int .i64 b.hx, .int .i64 b.hy] 52))) (g := w.heap.size + 1 + 1) (by simp) #[.bool c.no, .int .i64 c.lx, .int .i64 c.ly, .int .i64 c.hx, .int .i64 c.hy] 52
  have HB : Hid (Below w.heap.size w (((w.alloc (.cells #[.bool a.no, .int .i64 a.lx, .int .i64 a.ly, .int .i64 a.hx, .int .i64 a.hy] 52)).alloc (.cells #[.bool b.no, .int .i64 b.lx, .int .i64 b.ly, .int .i64 b.hx, .int .i64 b.hy] 52)).alloc (.cells #[.bool c.no, .int .i64 c.lx, .int .i64 c.ly, .int .i64 c.hx, .int .i64 c.hy] 52))) := Lib.hid (by repeat (first | exact Below.refl _ _ | refine Below.drew ?_ | refine Below.alloc ?_ (by simp <;> omega) _))
  go_enter Tryd.func9, Tryd.ntmps9
  go_upto_region 1 with (fail)
  obtain ⟨W, hW⟩ : ∃ W, (((w.alloc (.cells #[.bool a.no, .int .i64 a.lx, .int .i64 a.ly, .int .i64 a.hx, .int .i64 a.hy] 52)).alloc (.cells #[.bool b.no, .int .i64 b.lx, .int .i64 b.ly, .int .i64 b.hx, .int .i64 b.hy] 52)).alloc (.cells #[.bool c.no, .int .i64 c.lx, .int .i64 c.ly, .int .i64 c.hx, .int .i64 c.hy] 52)) = W := ⟨_, rfl⟩
  rw [hW] at A B C HB ⊢
  clear hW
  obtain ⟨a0, a1, a2, a3, a4⟩ := Blk.cells5 A
  obtain ⟨b0, b1, b2, b3, b4⟩ := Blk.cells5 B
  obtain ⟨c0, c1, c2, c3, c4⟩ := Blk.cells5 C
  go_wp2_with fail
  refine (HU.out a b n _ hn).mono ?_
  rintro e w1 ⟨rfl, hb1⟩
  have A := Blk.bel A hb1
  have B := Blk.bel B hb1
  have C := Blk.bel C hb1
  have HB := Lib.hid (bthen HB.out hb1)
  clear hb1 a0 a1 a2 a3 a4 b0 b1 b2 b3 b4 c0 c1 c2 c3 c4
  go_upto_region 2 with (fail)
  have N := Blk.new w1 #[.bool n.no, .int .i64 n.lx, .int .i64 n.ly, .int .i64 n.hx, .int .i64 n.hy] 52
  have A := Blk.alloc A (.cells #[.bool n.no, .int .i64 n.lx, .int .i64 n.ly, .int .i64 n.hx, .int .i64 n.hy] 52)
  have B := Blk.alloc B (.cells #[.bool n.no, .int .i64 n.lx, .int .i64 n.ly, .int .i64 n.hx, .int .i64 n.hy] 52)
  have C := Blk.alloc C (.cells #[.bool n.no, .int .i64 n.lx, .int .i64 n.ly, .int .i64 n.hx, .int .i64 n.hy] 52)
  have HB := Lib.hid (HB.out.alloc HB.out.size (.cells #[.bool n.no, .int .i64 n.lx, .int .i64 n.ly, .int .i64 n.hx, .int .i64 n.hy] 52))
  obtain ⟨w2, hW⟩ : ∃ W, w1.alloc (.cells #[.bool n.no, .int .i64 n.lx, .int .i64 n.ly, .int .i64 n.hx, .int .i64 n.hy] 52) = W := ⟨_, rfl⟩
  rw [hW] at A B C N HB ⊢
  obtain ⟨g, hg⟩ : ∃ g, w1.heap.size = g := ⟨_, rfl⟩
  rw [hg] at N ⊢
  clear hW hg
  go_cut [32] (fun t w' => t = .bool false ∧ Hid (Bel w2 w'))
  case first =>
    have HB := Lib.hid (Bel.refl w2)
    have p3' : m1 = true → MBox.meets n c = true := p3
    obtain ⟨a0, a1, a2, a3, a4⟩ := Blk.cells5 A
    obtain ⟨b0, b1, b2, b3, b4⟩ := Blk.cells5 B
    obtain ⟨c0, c1, c2, c3, c4⟩ := Blk.cells5 C
    obtain ⟨n0, n1, n2, n3, n4⟩ := Blk.cells5 N
    cases m1
    · clear p3 p3'
      go_wp2_with (first | (go_at_call 42; refine (HO.out _ _ _ _ (by assumption)).mono ?_; rintro e w' ⟨rfl, hb⟩; clear a0 a1 a2 a3 a4 b0 b1 b2 b3 b4 c0 c1 c2 c3 c4 n0 n1 n2 n3 n4; have A := Blk.bel A hb; have B := Blk.bel B hb; have C := Blk.bel C hb; have N := Blk.bel N hb; have HB := Lib.hid (bthen HB.out hb); clear hb; obtain ⟨a0, a1, a2, a3, a4⟩ := Blk.cells5 A; obtain ⟨b0, b1, b2, b3, b4⟩ := Blk.cells5 B; obtain ⟨c0, c1, c2, c3, c4⟩ := Blk.cells5 C; obtain ⟨n0, n1, n2, n3, n4⟩ := Blk.cells5 N) | (go_at_call 34; refine (HM.out _ _ _ _ (by assumption)).mono ?_; rintro e w' ⟨rfl, hb⟩; clear a0 a1 a2 a3 a4 b0 b1 b2 b3 b4 c0 c1 c2 c3 c4 n0 n1 n2 n3 n4; have A := Blk.bel A hb; have B := Blk.bel B hb; have C := Blk.bel C hb; have N := Blk.bel N hb; have HB := Lib.hid (bthen HB.out hb); clear hb; obtain ⟨a0, a1, a2, a3, a4⟩ := Blk.cells5 A; obtain ⟨b0, b1, b2, b3, b4⟩ := Blk.cells5 B; obtain ⟨c0, c1, c2, c3, c4⟩ := Blk.cells5 C; obtain ⟨n0, n1, n2, n3, n4⟩ := Blk.cells5 N))
      go_meet
      exact ⟨rfl, HB⟩
    · have p3 := p3 rfl
      clear p3'
      go_wp2_with (first | (go_at_call 42; refine (HO.out _ _ _ _ (by assumption)).mono ?_; rintro e w' ⟨rfl, hb⟩; clear a0 a1 a2 a3 a4 b0 b1 b2 b3 b4 c0 c1 c2 c3 c4 n0 n1 n2 n3 n4; have A := Blk.bel A hb; have B := Blk.bel B hb; have C := Blk.bel C hb; have N := Blk.bel N hb; have HB := Lib.hid (bthen HB.out hb); clear hb; obtain ⟨a0, a1, a2, a3, a4⟩ := Blk.cells5 A; obtain ⟨b0, b1, b2, b3, b4⟩ := Blk.cells5 B; obtain ⟨c0, c1, c2, c3, c4⟩ := Blk.cells5 C; obtain ⟨n0, n1, n2, n3, n4⟩ := Blk.cells5 N) | (go_at_call 34; refine (HM.out _ _ _ _ (by assumption)).mono ?_; rintro e w' ⟨rfl, hb⟩; clear a0 a1 a2 a3 a4 b0 b1 b2 b3 b4 c0 c1 c2 c3 c4 n0 n1 n2 n3 n4; have A := Blk.bel A hb; have B := Blk.bel B hb; have C := Blk.bel C hb; have N := Blk.bel N hb; have HB := Lib.hid (bthen HB.out hb); clear hb; obtain ⟨a0, a1, a2, a3, a4⟩ := Blk.cells5 A; obtain ⟨b0, b1, b2, b3, b4⟩ := Blk.cells5 B; obtain ⟨c0, c1, c2, c3, c4⟩ := Blk.cells5 C; obtain ⟨n0, n1, n2, n3, n4⟩ := Blk.cells5 N))
      go_meet
      exact ⟨rfl, HB⟩
  obtain ⟨rfl, hcut⟩ := hcut
  have A := Blk.bel A hcut.out
  have B := Blk.bel B hcut.out
  have N := Blk.bel N hcut.out
  have HB := Lib.hid (bthen HB.out hcut.out)
  clear hcut p1 p2 p3 hm1 C
  go_upto_region 4 with (fail)
  obtain ⟨w4, hW⟩ : ∃ W, wc = W := ⟨_, rfl⟩
  rw [hW] at A B N HB ⊢
  clear hW
  obtain ⟨a0, a1, a2, a3, a4⟩ := Blk.cells5 A
  obtain ⟨b0, b1, b2, b3, b4⟩ := Blk.cells5 B
  go_cut [43] (fun t w' => t = .bool false ∧ Hid (Bel w4 w'))
  case first =>
    have p4' : hd = true → MBox.equal n a = true := p4
    cases hd
    · clear p4 p4'
      have A := Blk.drew A
      have HB := Lib.hid (Below.drew (Bel.refl w4))
      go_wp2_with fail
      first | go_region_with (go_at_call 42; refine (HO.out _ _ _ _ (by assumption)).mono ?_; rintro e w' ⟨rfl, hb⟩; have HB := Lib.hid (bthen HB.out hb); clear hb) | fail
      all_goals
        go_wp2_with fail
        go_meet
        exact ⟨by simp [Act.put], HB⟩
    · have p4 := p4 rfl
      clear p4'
      have hS0 := And.intro a0 (And.intro a1 (And.intro a2 (And.intro a3 (And.intro a4 (And.intro b0 (And.intro b1 (And.intro b2 (And.intro b3 (And.intro b4 (Bel.refl w4))))))))))
      go_wp2_with fail
      first | go_region_held3 (fun w' => w'.cell? ⟨w.heap.size, 0, none⟩ = some (.bool a.no) ∧ w'.cell? ⟨w.heap.size, 1, none⟩ = some (.int .i64 a.lx) ∧ w'.cell? ⟨w.heap.size, 2, none⟩ = some (.int .i64 a.ly) ∧ w'.cell? ⟨w.heap.size, 3, none⟩ = some (.int .i64 a.hx) ∧ w'.cell? ⟨w.heap.size, 4, none⟩ = some (.int .i64 a.hy) ∧ w'.cell? ⟨w.heap.size + 1, 0, none⟩ = some (.bool b.no) ∧ w'.cell? ⟨w.heap.size + 1, 1, none⟩ = some (.int .i64 b.lx) ∧ w'.cell? ⟨w.heap.size + 1, 2, none⟩ = some (.int .i64 b.ly) ∧ w'.cell? ⟨w.heap.size + 1, 3, none⟩ = some (.int .i64 b.hx) ∧ w'.cell? ⟨w.heap.size + 1, 4, none⟩ = some (.int .i64 b.hy) ∧ Bel w4 w') (first | with_reducible assumption | with_reducible exact kb2 hb (by assumption) | with_reducible exact kb2 (Bel.drew _) hS0)
        (first
        | (go_at_call 42; refine (HO.out _ _ _ _ (by assumption)).mono ?_; rintro e w' ⟨rfl, hb⟩)
        | (go_at_call 43; refine (HE.out _ _ _ _ (by assumption)).mono ?_; rintro e w' ⟨rfl, hb⟩)
        | (go_at_call 41; refine (HU.out _ _ _ _ hn).mono ?_; rintro e w' ⟨rfl, hb⟩)) | fail
      all_goals
        rename_i hheld
        obtain ⟨-, -, -, -, -, -, -, -, -, -, hend⟩ := hheld
        go_wp2_with fail
        go_meet
        exact ⟨by first | rfl | simp, Lib.hid hend⟩
  obtain ⟨rfl, hcut⟩ := hcut
  have A := Blk.bel A hcut.out
  have B := Blk.bel B hcut.out
  have N := Blk.bel N hcut.out
  have HB := Lib.hid (bthen HB.out hcut.out)
  clear hcut p4 a0 a1 a2 a3 a4 b0 b1 b2 b3 b4
  go_upto_region 6 with (fail)
  obtain ⟨w6, hW⟩ : ∃ W, wc = W := ⟨_, rfl⟩
  rw [hW] at A B N HB ⊢
  clear hW
  obtain ⟨a0, a1, a2, a3, a4⟩ := Blk.cells5 A
  obtain ⟨n0, n1, n2, n3, n4⟩ := Blk.cells5 N
  have hS0 := And.intro a0 (And.intro a1 (And.intro a2 (And.intro a3 (And.intro a4 (And.intro n0 (And.intro n1 (And.intro n2 (And.intro n3 (And.intro n4 (Bel.refl w6))))))))))
  go_wp2_with fail
  first | go_region_held3 (fun w' => w'.cell? ⟨w.heap.size, 0, none⟩ = some (.bool a.no) ∧ w'.cell? ⟨w.heap.size, 1, none⟩ = some (.int .i64 a.lx) ∧ w'.cell? ⟨w.heap.size, 2, none⟩ = some (.int .i64 a.ly) ∧ w'.cell? ⟨w.heap.size, 3, none⟩ = some (.int .i64 a.hx) ∧ w'.cell? ⟨w.heap.size, 4, none⟩ = some (.int .i64 a.hy) ∧ w'.cell? ⟨g, 0, none⟩ = some (.bool n.no) ∧ w'.cell? ⟨g, 1, none⟩ = some (.int .i64 n.lx) ∧ w'.cell? ⟨g, 2, none⟩ = some (.int .i64 n.ly) ∧ w'.cell? ⟨g, 3, none⟩ = some (.int .i64 n.hx) ∧ w'.cell? ⟨g, 4, none⟩ = some (.int .i64 n.hy) ∧ Bel w6 w') (first | with_reducible assumption | with_reducible exact kb2 hb (by assumption) | with_reducible exact kb2 (Bel.drew _) hS0)
    (first
    | (go_at_call 44; refine (HA.out _ _ _ (by assumption) (by assumption)).mono ?_; rintro e w' ⟨rfl, hb⟩)) | fail
  all_goals
    rename_i hheld
    obtain ⟨-, -, -, -, -, -, -, -, -, -, hend⟩ := hheld
    have A := Blk.bel A hend
    have B := Blk.bel B hend
    have HB := Lib.hid (bthen HB.out hend)
    clear hend hS0 a0 a1 a2 a3 a4 n0 n1 n2 n3 n4 N q1
    go_upto_region 7 with (fail)
    obtain ⟨a0, a1, a2, a3, a4⟩ := Blk.cells5 A
    obtain ⟨b0, b1, b2, b3, b4⟩ := Blk.cells5 B
    have hS0 := And.intro a0 (And.intro a1 (And.intro a2 (And.intro a3 (And.intro a4 (And.intro b0 (And.intro b1 (And.intro b2 (And.intro b3 (And.intro b4 (Bel.refl w'))))))))))
    obtain ⟨w7, hW⟩ : ∃ W, w' = W := ⟨_, rfl⟩
    rw [hW] at A B HB a0 a1 a2 a3 a4 b0 b1 b2 b3 b4 hS0 ⊢
    clear hW
    go_wp2_with fail
    first | go_region_held3 (fun w' => w'.cell? ⟨w.heap.size, 0, none⟩ = some (.bool a.no) ∧ w'.cell? ⟨w.heap.size, 1, none⟩ = some (.int .i64 a.lx) ∧ w'.cell? ⟨w.heap.size, 2, none⟩ = some (.int .i64 a.ly) ∧ w'.cell? ⟨w.heap.size, 3, none⟩ = some (.int .i64 a.hx) ∧ w'.cell? ⟨w.heap.size, 4, none⟩ = some (.int .i64 a.hy) ∧ w'.cell? ⟨w.heap.size + 1, 0, none⟩ = some (.bool b.no) ∧ w'.cell? ⟨w.heap.size + 1, 1, none⟩ = some (.int .i64 b.lx) ∧ w'.cell? ⟨w.heap.size + 1, 2, none⟩ = some (.int .i64 b.ly) ∧ w'.cell? ⟨w.heap.size + 1, 3, none⟩ = some (.int .i64 b.hx) ∧ w'.cell? ⟨w.heap.size + 1, 4, none⟩ = some (.int .i64 b.hy) ∧ Bel w7 w') (first | with_reducible assumption | with_reducible exact kb2 hb (by assumption) | with_reducible exact kb2 (Bel.drew _) hS0)
      (first
      | (go_at_call 45; refine (G1.out _).mono ?_; rintro e w' ⟨rfl, hb⟩)
      | (go_at_call 34; refine (HM.out _ _ _ _ (by assumption)).mono ?_; rintro e w' ⟨rfl, hb⟩)
      | (go_at_call 41; refine (HU.out _ _ _ _ (by assumption)).mono ?_; rintro e w' ⟨rfl, hb⟩)
      | (go_at_call 27; refine (HL.out _).mono ?_; rintro e w' ⟨rfl, hb⟩)) | fail
    all_goals
      rename_i hheld
      obtain ⟨-, -, -, -, -, -, -, -, -, -, hend⟩ := hheld
      have HBf := Lib.hid (bthen HB.out hend)
      clear hend hS0
      go_wp2
      go_ret
      exact ⟨by first | rfl | simp, HBf.out⟩

end Go.Proofs.YtakkifedcbhgfaaDoor.K
