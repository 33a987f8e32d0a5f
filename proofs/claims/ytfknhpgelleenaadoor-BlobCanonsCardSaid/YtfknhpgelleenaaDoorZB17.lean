/- What a claim leans on, part 17, cut by a program out of the texts WRight. -/
import Derived.Handy
import Derived.IntWalk
import Derived.Test.YtfknhpgelleenaaDoorZB4
import Derived.Test.YtfknhpgelleenaaDoorZB16
section
namespace Go.Proofs.YtfknhpgelleenaaDoor.K
open Go Go.RowKit Go.Proofs.YtfknhpgelleenaaDoorW.PrintWords Go.Proofs.YtfknhpgelleenaaDoorW.PrintLast Go.Proofs.YtfknhpgelleenaaDoorW.PrintMore
set_option linter.unusedVariables false
set_option linter.unusedSimpArgs false
open Go.Proofs.YtfknhpgelleenaaDoor.MShape (Sh Cn isKind partOf ends own fits right rights)
/-- The kinds' table, as it is laid. -/
def FormsAt (W : World) : Prop := W.cell? ⟨0, 0, none⟩ = some (.string ⟨#[]⟩) ∧ W.cell? ⟨0, 1, none⟩ = some (.int .i64 (-1)) ∧ W.cell? ⟨0, 2, none⟩ = some (.string ⟨#[80, 79, 73, 78, 84]⟩) ∧ W.cell? ⟨0, 3, none⟩ = some (.int .i64 (-1)) ∧ W.cell? ⟨0, 4, none⟩ = some (.string ⟨#[76, 73, 78, 69, 83, 84, 82, 73, 78, 71]⟩) ∧ W.cell? ⟨0, 5, none⟩ = some (.int .i64 (-1)) ∧ W.cell? ⟨0, 6, none⟩ = some (.string ⟨#[80, 79, 76, 89, 71, 79, 78]⟩) ∧ W.cell? ⟨0, 7, none⟩ = some (.int .i64 0) ∧ W.cell? ⟨0, 8, none⟩ = some (.string ⟨#[77, 85, 76, 84, 73, 80, 79, 73, 78, 84]⟩) ∧ W.cell? ⟨0, 9, none⟩ = some (.int .i64 1) ∧ W.cell? ⟨0, 10, none⟩ = some (.string ⟨#[77, 85, 76, 84, 73, 76, 73, 78, 69, 83, 84, 82, 73, 78, 71]⟩) ∧ W.cell? ⟨0, 11, none⟩ = some (.int .i64 2) ∧ W.cell? ⟨0, 12, none⟩ = some (.string ⟨#[77, 85, 76, 84, 73, 80, 79, 76, 89, 71, 79, 78]⟩) ∧ W.cell? ⟨0, 13, none⟩ = some (.int .i64 3) ∧ W.cell? ⟨0, 14, none⟩ = some (.string ⟨#[71, 69, 79, 77, 69, 84, 82, 89, 67, 79, 76, 76, 69, 67, 84, 73, 79, 78]⟩) ∧ W.cell? ⟨0, 15, none⟩ = some (.int .i64 (-2))
theorem FormsAt.keep {W W' : World} (h : KeepB 1 W W') (hf : FormsAt W) : FormsAt W' := by
  unfold FormsAt at *
  obtain ⟨h0, h1, h2, h3, h4, h5, h6, h7, h8, h9, h10, h11, h12, h13, h14, h15⟩ := hf
  exact ⟨h.cell (by omega) h0, h.cell (by omega) h1, h.cell (by omega) h2, h.cell (by omega) h3, h.cell (by omega) h4, h.cell (by omega) h5, h.cell (by omega) h6, h.cell (by omega) h7, h.cell (by omega) h8, h.cell (by omega) h9, h.cell (by omega) h10, h.cell (by omega) h11, h.cell (by omega) h12, h.cell (by omega) h13, h.cell (by omega) h14, h.cell (by omega) h15⟩
theorem FormsAt.bel {W W' : World} (hf : FormsAt W) (hb : Bel W W') : FormsAt W' := hf.keep (KeepB.bel hb)
theorem isKind_calls (k : Int) (w : World) (r : Bool) (hr : isKind k = r) : Calls Tryd.prog 54 #[.int .i64 k] w fun e w' => e = .returned (.bool r) ∧ w = w' := by
  subst hr
  unfold isKind
  by_cases h : 1 ≤ k
  · have h1 : decide (1 ≤ k) = true := by simpa using h
    rw [h1]
    go_enter Tryd.func54, Tryd.ntmps54
    go_wp2
    go_ret
    exact ⟨by simp, rfl⟩
  · have h1 : decide (1 ≤ k) = false := by simpa using h
    rw [h1]
    go_enter Tryd.func54, Tryd.ntmps54
    go_wp2
    go_ret
    exact ⟨by simp, rfl⟩
set_option maxHeartbeats 2000000 in
set_option maxRecDepth 100000 in
theorem fits_calls (k k' : Int) (x y : Value) (w : World) (hF : FormsAt w) (h0 : 0 ≤ k) (h7 : k ≤ 7) (r : Bool) (hr : fits k k' = r) :
    Calls Tryd.prog 82 #[.int .i64 k, .agg #[.int .i64 k', x, y]] w fun e w' => e = .returned (.bool r) ∧ Bel w w' := by
  subst hr
  have S := Blk.new w #[.int .i64 k', x, y] 25
  have HB : Hid (Below w.heap.size w (w.alloc (.cells #[.int .i64 k', x, y] 25))) := Lib.hid (by repeat (first | exact Below.refl _ _ | refine Below.alloc ?_ (by simp <;> omega) _))
  obtain ⟨t0, t1, t2, t3, t4, t5, t6, t7, t8, t9, t10, t11, t12, t13, t14, t15⟩ := hF.bel HB.out
  have HI := Lib.hid (isKind_calls k')
  have hk : k = 0 ∨ k = 1 ∨ k = 2 ∨ k = 3 ∨ k = 4 ∨ k = 5 ∨ k = 6 ∨ k = 7 := by omega
  clear hF h0 h7
  rcases hk with rfl | rfl | rfl | rfl | rfl | rfl | rfl | rfl
  all_goals
    unfold fits partOf
    try simp only [if_true, if_false, Int.reduceEq, Int.reduceNeg]
    go_enter Tryd.func82, Tryd.ntmps82
    go_upto_region 1 with (fail)
    obtain ⟨W, hW⟩ : ∃ W, w.alloc (.cells #[.int .i64 k', x, y] 25) = W := ⟨_, rfl⟩
    rw [hW] at S HB t0 t1 t2 t3 t4 t5 t6 t7 t8 t9 t10 t11 t12 t13 t14 t15 ⊢
    clear hW
    obtain ⟨s0, s1, s2⟩ := Blk.cells3 S
    go_wp2_with (go_at_call 54; refine (HI.out _ _ rfl).mono ?_; rintro e w' ⟨rfl, rfl⟩)
    go_ret
    exact ⟨by first | rfl | simp, HB.out⟩
attribute [local go_sem] undef
theorem below_drewN {B : Nat} {a w : World} (h : Below B a w) (n : Nat) : Below B a (w.drewN n) := ⟨h.os, h.tape, h.output, h.size, h.block⟩
theorem rights_cons (k : Int) (p : Sh) (ps : List Sh) : rights k (p :: ps) = ((fits k p.kind && right p) && rights k ps) := by first | rfl | (conv => lhs; unfold rights)
set_option maxRecDepth 100000 in
theorem eqPt_in (d : Nat) (x y x' y' : Int) (w : World) : (Op.equalIn (d + 2) 41 (.agg #[.int .i64 x, .int .i64 y]) (.agg #[.int .i64 x', .int .i64 y'])).run Tryd.prog w = .ok (x == x' && y == y') w := by
  rw [run_equalIn_struct w (d + 1) 41 _ _ (by kernel_rfl) (by kernel_rfl)]
  simp only [Program.fieldsOf, Tryd.underlying41]
  cases hx : (x == x') <;> cases hy : (y == y') <;> simp [Op.eqFields, go_sem, Tryd.underlying3, hx, hy]
set_option maxRecDepth 100000 in
theorem eqPt (x y x' y' : Int) (w : World) : (binOp .eql 41 (.agg #[.int .i64 x, .int .i64 y]) (.agg #[.int .i64 x', .int .i64 y'])).run Tryd.prog w = .ok (.bool (x == x' && y == y')) w := by
  unfold binOp
  simp only [Sem.run_bind, Op.equal, Op.maxDepth, eqPt_in 9998 x y x' y', Result.andThen_ok, Sem.run_pure]
set_option maxHeartbeats 2000000 in
set_option maxRecDepth 100000 in
theorem own_calls (k : Int) (pts : List (Int × Int)) (a a' : Option Addr) (c n' m' : Nat) (w : World) (B : Nat) (hp : PtsB B w (.slice a pts.length c) pts) (r : Bool) (hr : own k pts = r) :
    Calls Tryd.prog 81 #[.agg #[.int .i64 k, .slice a pts.length c, .slice a' n' m']] w fun e w' => e = .returned (.bool r) ∧ Bel w w' := by
  subst hr
  have HI := Lib.hid isKind_calls
  obtain ⟨a0, c0, e0, _, hm, hx⟩ := hp
  injection e0 with e1 e2 e3
  subst e1
  clear e2 e3
  by_cases h0 : k = 0
  · subst h0
    by_cases h4 : 4 ≤ pts.length
    · obtain ⟨b, off, rfl, _, x0, y0⟩ := hx 0 (by omega)
      obtain ⟨b', off', e', _, x1, y1⟩ := hx (pts.length - 1) (by omega)
      obtain ⟨rfl, rfl⟩ : b = b' ∧ off = off' := by simpa using e'
      have hv : own 0 pts = (pts[0].1 == pts[pts.length - 1].1 && pts[0].2 == pts[pts.length - 1].2) := by
        unfold own ends
        rw [if_pos rfl, decide_eq_true h4, Bool.true_and]
        simp [List.getD_eq_getElem?_getD, List.getElem?_eq_getElem (show 0 < pts.length by omega), List.getElem?_eq_getElem (show pts.length - 1 < pts.length by omega)]
      rw [hv]
      obtain ⟨p, hp⟩ : ∃ p, pts[0] = p := ⟨_, rfl⟩
      obtain ⟨q, hq⟩ : ∃ p, pts[pts.length - 1] = p := ⟨_, rfl⟩
      rw [hp] at x0 y0 ⊢
      rw [hq] at x1 y1 ⊢
      have q1 := eqPt p.1 p.2 q.1 q.2
      obtain ⟨n, hn⟩ : ∃ n, pts.length = n := ⟨_, rfl⟩
      rw [hn] at h4 hm x1 y1 ⊢
      clear hv hp hq hn e' hx
      have h4' : decide ((4 : Int) ≤ (n : Int)) = true := by simp; omega
      have hwr : IntKind.i64.wrap ((n : Int) - 1) = (n : Int) - 1 := IntWalk.i64_in _ (by omega)
      have hb1 : (0 : Int) ≤ (n : Int) - 1 := by omega
      have hb2 : (n : Int) - 1 < (n : Int) := by omega
      have hb3 : ((n : Int) - 1).toNat = n - 1 := by omega
      have hb4 : (0 : Int) < (n : Int) := by omega
      clear h4
      have S := Blk.new w #[.int .i64 0, .slice (some ⟨b, off, none⟩) n c, .slice a' n' m'] 25
      have HB : Hid (Below w.heap.size w (w.alloc (.cells #[.int .i64 0, .slice (some ⟨b, off, none⟩) n c, .slice a' n' m'] 25))) := Lib.hid (by repeat (first | exact Below.refl _ _ | refine Below.alloc ?_ (by simp <;> omega) _))
      go_enter Tryd.func81, Tryd.ntmps81
      go_upto_region 1 with (fail)
      obtain ⟨W, hW⟩ : ∃ W, w.alloc (.cells #[.int .i64 0, .slice (some ⟨b, off, none⟩) n c, .slice a' n' m'] 25) = W := ⟨_, rfl⟩
      rw [hW] at S HB ⊢
      clear hW
      obtain ⟨s0, s1, s2⟩ := Blk.cells3 S
      have x0 := kc ((Bel.refl W)) (HB.out.cell (p := ⟨b, off + 0 * 2, none⟩) (World.block_lt_of_cell? _ _ x0) |>.trans x0)
      have y0 := HB.out.cell (p := ⟨b, off + 0 * 2 + 1, none⟩) (World.block_lt_of_cell? _ _ y0) |>.trans y0
      have x1 := HB.out.cell (p := ⟨b, off + (n - 1) * 2, none⟩) (World.block_lt_of_cell? _ _ x1) |>.trans x1
      have y1 := HB.out.cell (p := ⟨b, off + (n - 1) * 2 + 1, none⟩) (World.block_lt_of_cell? _ _ y1) |>.trans y1
      rw [Nat.zero_mul, Nat.add_zero] at x0 y0
      go_upto_region 4 with (fail)
      go_quiet (fail)
      go_wp2
      go_ret
      exact ⟨rfl, below_drewN HB.out _⟩
    · have hv : own 0 pts = false := by unfold own; rw [if_pos rfl, decide_eq_false h4]; rfl
      rw [hv]
      have h4' : decide ((4 : Int) ≤ (pts.length : Int)) = false := by simp; omega
      clear hv h4 hx
      have S := Blk.new w #[.int .i64 0, .slice a pts.length c, .slice a' n' m'] 25
      have HB : Hid (Below w.heap.size w (w.alloc (.cells #[.int .i64 0, .slice a pts.length c, .slice a' n' m'] 25))) := Lib.hid (by repeat (first | exact Below.refl _ _ | refine Below.alloc ?_ (by simp <;> omega) _))
      go_enter Tryd.func81, Tryd.ntmps81
      go_upto_region 1 with (fail)
      obtain ⟨W, hW⟩ : ∃ W, w.alloc (.cells #[.int .i64 0, .slice a pts.length c, .slice a' n' m'] 25) = W := ⟨_, rfl⟩
      rw [hW] at S HB ⊢
      clear hW
      obtain ⟨s0, s1, s2⟩ := Blk.cells3 S
      go_upto_region 4 with (fail)
      go_quiet (fail)
      go_wp2
      go_ret
      exact ⟨by first | rfl | simp, below_drewN HB.out _⟩
  · by_cases h1 : k = 1
    · subst h1
      have hv : own 1 pts = decide ((pts.length : Int) ≤ 1) := by unfold own; rw [if_neg (by omega), if_pos rfl]; rw [Bool.eq_iff_iff]; simp; omega
      rw [hv]
      clear hv hx
      have S := Blk.new w #[.int .i64 1, .slice a pts.length c, .slice a' n' m'] 25
      have HB : Hid (Below w.heap.size w (w.alloc (.cells #[.int .i64 1, .slice a pts.length c, .slice a' n' m'] 25))) := Lib.hid (by repeat (first | exact Below.refl _ _ | refine Below.alloc ?_ (by simp <;> omega) _))
      go_enter Tryd.func81, Tryd.ntmps81
      go_upto_region 1 with (fail)
      obtain ⟨W, hW⟩ : ∃ W, w.alloc (.cells #[.int .i64 1, .slice a pts.length c, .slice a' n' m'] 25) = W := ⟨_, rfl⟩
      rw [hW] at S HB ⊢
      clear hW
      obtain ⟨s0, s1, s2⟩ := Blk.cells3 S
      go_wp2
      go_ret
      exact ⟨rfl, HB.out⟩
    · by_cases h2 : k = 2
      · subst h2
        have hv : own 2 pts = ((pts.length : Int) != 1) := by unfold own; rw [if_neg (by omega), if_neg (by omega), if_pos rfl]; rw [Bool.eq_iff_iff]; simp; omega
        rw [hv]
        clear hv hx h0 h1
        have S := Blk.new w #[.int .i64 2, .slice a pts.length c, .slice a' n' m'] 25
        have HB : Hid (Below w.heap.size w (w.alloc (.cells #[.int .i64 2, .slice a pts.length c, .slice a' n' m'] 25))) := Lib.hid (by repeat (first | exact Below.refl _ _ | refine Below.alloc ?_ (by simp <;> omega) _))
        go_enter Tryd.func81, Tryd.ntmps81
        go_upto_region 1 with (fail)
        obtain ⟨W, hW⟩ : ∃ W, w.alloc (.cells #[.int .i64 2, .slice a pts.length c, .slice a' n' m'] 25) = W := ⟨_, rfl⟩
        rw [hW] at S HB ⊢
        clear hW
        obtain ⟨s0, s1, s2⟩ := Blk.cells3 S
        go_wp2
        go_ret
        exact ⟨rfl, HB.out⟩
      · have hv : own k pts = (isKind k && ((pts.length : Int) == 0)) := by unfold own; rw [if_neg h0, if_neg h1, if_neg h2]; congr 1; rw [Bool.eq_iff_iff]; simp
        rw [hv]
        have g0 : (k == 0) = false := by simpa using h0
        have g1 : (k == 1) = false := by simpa using h1
        have g2 : (k == 2) = false := by simpa using h2
        obtain ⟨r, hr⟩ : ∃ r, isKind k = r := ⟨_, rfl⟩
        have HI2 := Lib.hid (fun w => HI.out k w r hr)
        rw [hr]
        clear hv hx h0 h1 h2 HI hr
        cases r
        all_goals
          have S := Blk.new w #[.int .i64 k, .slice a pts.length c, .slice a' n' m'] 25
          have HB : Hid (Below w.heap.size w (w.alloc (.cells #[.int .i64 k, .slice a pts.length c, .slice a' n' m'] 25))) := Lib.hid (by repeat (first | exact Below.refl _ _ | refine Below.alloc ?_ (by simp <;> omega) _))
          go_enter Tryd.func81, Tryd.ntmps81
          go_upto_region 1 with (fail)
          obtain ⟨W, hW⟩ : ∃ W, w.alloc (.cells #[.int .i64 k, .slice a pts.length c, .slice a' n' m'] 25) = W := ⟨_, rfl⟩
          rw [hW] at S HB ⊢
          clear hW
          obtain ⟨s0, s1, s2⟩ := Blk.cells3 S
          go_wp2_with (go_at_call 54; refine (HI2.out _).mono ?_; rintro e w' ⟨rfl, rfl⟩)
          go_ret
          exact ⟨by first | rfl | simp, HB.out⟩
theorem own_kind {k : Int} {pts : List (Int × Int)} (h : own k pts = true) : 0 ≤ k ∧ k ≤ 7 := by
  unfold own at h
  split at h
  · omega
  · split at h
    · omega
    · split at h
      · omega
      · unfold isKind at h
        simp only [Bool.and_eq_true, decide_eq_true_eq] at h
        omega
set_option maxHeartbeats 2000000 in
set_option maxRecDepth 100000 in
theorem right_calls : ∀ (D : Nat) (s : Sh) (c : Value × Value × Value) (w : World) (B : Nat), B ≤ w.heap.size → 1 ≤ w.heap.size → ShB B w D c s → FormsAt w →
    Calls Tryd.prog 55 #[.agg #[c.1, c.2.1, c.2.2]] w fun e w' => e = .returned (.bool (right s)) ∧ Bel w w' := by
  intro D
  induction D with
  | zero => intro s c w B _ _ h; exact h.elim
  | succ D ih =>
    intro s c w B hB hw1 hs hF
    have IH := Lib.hid ih
    clear ih
    obtain ⟨kind, pts, ps⟩ := s
    obtain ⟨e0, hpts, cs, hcs, ⟨a2, c2, e2, hc2, hm2, hx2⟩, hsub⟩ := hs
    have hpts' := hpts
    obtain ⟨a1, c1, e1, hc1, hm1, -⟩ := hpts
    obtain ⟨v0, v1, v2⟩ := c
    simp only at e0 e1 e2 hpts'
    subst e0 e1 e2
    dsimp only
    have HX := Lib.hid hx2
    have HSUB := Lib.hid hsub
    have HCS := Lib.hid hcs
    have HO := Lib.hid (fun W (h : Bel w W) => own_calls kind pts a1 a2 c1 cs.length c2 W B (hpts'.keep (KeepB.bel h)))
    have HFm := Lib.hid hF
    have hr : right (.mk kind pts ps) = (own kind pts && rights kind ps) := by unfold right; rfl
    rw [hr]
    clear hx2 hsub hcs hpts' hr hF
    have S := Blk.new w #[.int .i64 kind, .slice a1 pts.length c1, .slice a2 cs.length c2] 25
    have HB : Hid (Below w.heap.size w (w.alloc (.cells #[.int .i64 kind, .slice a1 pts.length c1, .slice a2 cs.length c2] 25))) := Lib.hid (by repeat (first | exact Below.refl _ _ | refine Below.alloc ?_ (by simp <;> omega) _))
    obtain ⟨ow, how⟩ : ∃ r, own kind pts = r := ⟨_, rfl⟩
    have HO2 := Lib.hid (fun W h => HO.out W h ow how)
    rw [how]
    have HOW := Lib.hid how
    clear HO how
    obtain ⟨rt, hrt⟩ : ∃ r, rights kind ps = r := ⟨_, rfl⟩
    rw [hrt]
    have HRT := Lib.hid hrt
    clear hrt
    go_enter Tryd.func55, Tryd.ntmps55
    go_upto_region 1 with (fail)
    obtain ⟨W, hW⟩ : ∃ X, w.alloc (.cells #[.int .i64 kind, .slice a1 pts.length c1, .slice a2 cs.length c2] 25) = X := ⟨_, rfl⟩
    rw [hW] at S HB ⊢
    clear hW
    obtain ⟨s0, s1, s2⟩ := Blk.cells3 S
    have HC1 := Lib.hid (HO2.out W HB.out)
    clear HO2
    cases ow with
    | false =>
      go_wp2_with (go_at_call 81; refine (HC1.out).mono ?_; rintro e w1 ⟨rfl, hb1⟩; have HB1 := Lib.hid (bthen HB.out hb1))
      go_ret
      exact ⟨by simp, HB1.out⟩
    | true =>
      have hk7 : 0 ≤ kind ∧ kind ≤ 7 := own_kind HOW.out
      go_upto_region 3 with (go_at_call 81; refine (HC1.out).mono ?_; rintro e w1 ⟨rfl, hb1⟩; have S1 := Blk.bel S hb1; have HB1 := Lib.hid (bthen HB.out hb1); clear hb1)
      clear s0 s1 s2 S HB
      obtain ⟨s0, s1, s2⟩ := Blk.cells3 S1
      have S1h := Lib.hid S1
      clear S1
      go_wp2_with fail
      go_loopw [11] (fun i wr => ∃ (k : Nat), i = .int .i64 k ∧ k ≤ cs.length ∧ Hid (Below w.heap.size w wr) ∧ Hid (Blk wr w.heap.size #[.int .i64 kind, .slice a1 pts.length c1, .slice a2 cs.length c2] 25) ∧ Hid (rights kind (ps.drop k) = rt)) (fun i _ => cs.length - (intOf i).toNat)
      case atStart => exact ⟨0, rfl, by omega, HB1, S1h, Lib.hid (by rw [List.drop_zero]; exact HRT.out)⟩
      case round =>
        obtain ⟨k, rfl, hk, HBk, HS, HRk⟩ := hrel
        clear s0 s1 s2
        by_cases hlt : k < cs.length
        · obtain ⟨b, off, rfl, hbB, x0, x1, x2⟩ := HX.out k hlt
          have hpk : k < ps.length := by have := HCS.out; omega
          have KB : KeepB B w wr := fun j hj cs t r hc => (HBk.out.block j (by omega)).trans hc
          have x0 := KB.cell hbB x0
          have x1 := KB.cell hbB x1
          have x2 := KB.cell hbB x2
          have hsh := (HSUB.out k cs[k] ps[k] (List.getElem?_eq_getElem hlt) (List.getElem?_eq_getElem hpk)).keep KB
          have hF1 : FormsAt wr := HFm.out.keep (fun j hj cs t r hc => (HBk.out.block j (by omega)).trans hc)
          have hRk := HRk.out
          rw [List.drop_eq_getElem_cons hpk] at hRk
          obtain ⟨xk, hxk⟩ : ∃ x, cs[k] = x := ⟨_, rfl⟩
          obtain ⟨pk, hpk2⟩ : ∃ x, ps[k] = x := ⟨_, rfl⟩
          rw [hxk] at x0 x1 x2 hsh
          rw [hpk2] at hsh hRk
          obtain ⟨kind', ab, n1, cb, ac, n2, cc, rfl⟩ := hsh.forms
          have hpkk : pk.kind = kind' := by
            cases D with
            | zero => exact hsh.elim
            | succ D => obtain ⟨q, _, _⟩ := pk; obtain ⟨h, _⟩ := hsh; simpa [Sh.kind] using h.symm
          dsimp only at x0 x1 x2
          have hRk2 : ((fits kind kind' && right pk) && rights kind (ps.drop (k + 1))) = rt := by rw [← hpkk, ← rights_cons]; exact hRk
          have HR2 := Lib.hid hRk2
          have HSH := Lib.hid hsh
          have HF1 := Lib.hid hF1
          clear hxk hpk2 hsh KB hpk hRk hRk2 hpkk hF1
          have P := Blk.new wr #[.int .i64 kind', .slice ab n1 cb, .slice ac n2 cc] 25
          have HB5 : Hid (Bel wr (wr.alloc (.cells #[.int .i64 kind', .slice ab n1 cb, .slice ac n2 cc] 25))) := Lib.hid ((Bel.refl wr).alloc (Nat.le_refl _) _)
          have S5 := Blk.bel HS.out HB5.out
          have hS5 := HS.out.lt
          go_upto_region 6 with (fail)
          obtain ⟨w5, hW⟩ : ∃ X, wr.alloc (.cells #[.int .i64 kind', .slice ab n1 cb, .slice ac n2 cc] 25) = X := ⟨_, rfl⟩
          rw [hW] at P HB5 S5 ⊢
          obtain ⟨gp, hg⟩ : ∃ g, wr.heap.size = g := ⟨_, rfl⟩
          rw [hg] at P hS5 ⊢
          clear hW hg x0 x1 x2
          obtain ⟨p0, p1, p2⟩ := Blk.cells3 P
          obtain ⟨s0, s1, s2⟩ := Blk.cells3 S5
          have hsz : B ≤ w5.heap.size ∧ 1 ≤ w5.heap.size := by have := HB5.out.size; have := HBk.out.size; omega
          obtain ⟨ft, hft⟩ : ∃ r, fits kind kind' = r := ⟨_, rfl⟩
          obtain ⟨rg, hrg⟩ : ∃ r, right pk = r := ⟨_, rfl⟩
          have HFT := Lib.hid (fits_calls kind kind' (.slice ab n1 cb) (.slice ac n2 cc) w5 (HF1.out.bel HB5.out) hk7.1 hk7.2 ft hft)
          have HRG : Hid (∀ W, Bel w5 W → Calls Tryd.prog 55 #[.agg #[.int .i64 kind', .slice ab n1 cb, .slice ac n2 cc]] W fun e w' => e = .returned (.bool rg) ∧ Bel W w') := Lib.hid (fun W h => by
            have := IH.out pk (.int .i64 kind', .slice ab n1 cb, .slice ac n2 cc) W B (by have := h.size; omega) (by have := h.size; omega) (HSH.out.keep ((KeepB.bel HB5.out).trans (KeepB.bel h))) ((HF1.out.bel HB5.out).bel h)
            rwa [hrg] at this)
          have HR3 := HR2.out
          rw [hft, hrg] at HR3
          clear hft hrg
          cases ft with
          | false =>
            have HR4 : Hid (rt = false) := Lib.hid (by rw [← HR3]; rfl)
            clear HR3
            go_wp2_with (go_at_call 82; refine (HFT.out).mono ?_; rintro e w6 ⟨rfl, hb6⟩; have HB6 := Lib.hid (bthen HBk.out (bthen HB5.out hb6)))
            go_ret
            exact ⟨by rw [HR4.out]; first | rfl | simp, HB6.out⟩
          | true =>
            cases rg with
            | false =>
              have HR4 : Hid (rt = false) := Lib.hid (by rw [← HR3]; rfl)
              clear HR3
              go_wp2_with (first
                | (go_at_call 55; refine (HRG.out _ hb6.out).mono ?_; rintro e w7 ⟨rfl, hb7⟩; have HB7 := Lib.hid (bthen HBk.out (bthen HB5.out (bthen hb6.out hb7))))
                | (go_at_call 82; refine (HFT.out).mono ?_; rintro e w6 ⟨rfl, hbx⟩; have hb6 := Lib.hid hbx; have P6 := Blk.bel P hbx; clear hbx; obtain ⟨p0, p1, p2⟩ := Blk.cells3 P6))
              go_ret
              exact ⟨by rw [HR4.out]; first | rfl | simp, HB7.out⟩
            | true =>
              have HR4 : Hid (rights kind (ps.drop (k + 1)) = rt) := Lib.hid (by rw [← HR3]; rfl)
              clear HR3
              go_wp2_with (first
                | (go_at_call 55; refine (HRG.out _ hb6.out).mono ?_; rintro e w7 ⟨rfl, hb7⟩; have HB7 := Lib.hid (bthen HBk.out (bthen HB5.out (bthen hb6.out hb7))); have S7 := Lib.hid (Blk.bel (Blk.bel S5 hb6.out) hb7))
                | (go_at_call 82; refine (HFT.out).mono ?_; rintro e w6 ⟨rfl, hbx⟩; have hb6 := Lib.hid hbx; have P6 := Blk.bel P hbx; clear hbx; obtain ⟨p0, p1, p2⟩ := Blk.cells3 P6))
              go_roundw
              case rel => exact ⟨k + 1, by go_num, by omega, HB7, S7, HR4⟩
              case measure => (simp [intOf] <;> omega)
        · have : k = cs.length := by omega
          subst this
          have HF6 : Hid (rt = true) := Lib.hid (by have := HRk.out; rw [HCS.out, List.drop_length] at this; rw [← this]; rfl)
          clear hlt hk
          go_wp2
          go_ret
          exact ⟨by rw [HF6.out]; first | rfl | simp, HBk.out⟩
end Go.Proofs.YtfknhpgelleenaaDoor.K
end
