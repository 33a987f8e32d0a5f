/- What a claim leans on, part 21, cut by a program out of the texts KRC. -/
import Derived.Handy
import Derived.Test.YtfknhpgelleenaaDoorZB3
import Derived.Test.YtfknhpgelleenaaDoorZB4
import Derived.Test.YtfknhpgelleenaaDoorZB12
import Derived.Test.YtfknhpgelleenaaDoorZB14
import Derived.Test.YtfknhpgelleenaaDoorZB16
import Derived.Test.YtfknhpgelleenaaDoorZB17
import Derived.Test.YtfknhpgelleenaaDoorZB18
import Derived.Test.YtfknhpgelleenaaDoorZB20
section
namespace Go.Proofs.YtfknhpgelleenaaDoor.MShape
set_option linter.unusedVariables false
set_option linter.unusedSimpArgs false
def rfits (k : Int) (pts : List (Int × Int)) (n : Nat) : Bool :=
  if k = 0 then (decide (4 ≤ pts.length) && ends pts) && decide (n = 0) else if k = 1 then decide (pts.length ≤ 1) && decide (n = 0) else if k = 2 then !decide (pts.length = 1) && decide (n = 0) else (decide (3 ≤ k) && decide (k ≤ 7)) && decide (pts.length = 0)
def rpartOf (k : Int) : Int := if k = 3 then 0 else if k = 4 then 1 else if k = 5 then 2 else if k = 6 then 3 else -1
/-- May a part be in a shape of a kind? -/
def rp (k k' : Int) : Bool := if k = 7 then !decide (k' < 1) else if k < 7 then k' == rpartOf k else true
mutual
def rright : Sh → Bool
  | .mk k pts ps => rfits k pts ps.length && rrights k ps
def rrights (k : Int) : List Sh → Bool
  | [] => true
  | p :: ps => (rp k p.kind && rright p) && rrights k ps
end
theorem right_kind {s : Sh} (h : right s = true) : 0 ≤ s.kind ∧ s.kind ≤ 7 := by
  cases s with
  | mk k pts ps =>
    have h1 : own k pts = true := by
      unfold right at h
      simp only [Bool.and_eq_true] at h
      exact h.1
    show 0 ≤ k ∧ k ≤ 7
    unfold own isKind at h1
    by_cases e0 : k = 0
    · omega
    by_cases e1 : k = 1
    · omega
    by_cases e2 : k = 2
    · omega
    rw [if_neg e0, if_neg e1, if_neg e2] at h1
    simp only [Bool.and_eq_true, decide_eq_true_eq] at h1
    omega
theorem rp_fits {k k' : Int} (h3 : 3 ≤ k) (h7 : k ≤ 7) (hk : 0 ≤ k' ∧ k' ≤ 7) : rp k k' = fits k k' := by
  have hk : k = 3 ∨ k = 4 ∨ k = 5 ∨ k = 6 ∨ k = 7 := by omega
  rcases hk with rfl | rfl | rfl | rfl | rfl
  · simp [rp, fits, rpartOf, partOf]
  · simp [rp, fits, rpartOf, partOf]
  · simp [rp, fits, rpartOf, partOf]
  · simp [rp, fits, rpartOf, partOf]
  · simp only [rp, fits, partOf, isKind, if_true, if_false, Int.reduceEq]
    rw [Bool.eq_iff_iff]
    simp
    omega
mutual
theorem rright_eq : ∀ s : Sh, rright s = right s
  | .mk k pts ps => by
    have ih := rrights_eq ps
    have e1 : rright (.mk k pts ps) = (rfits k pts ps.length && rrights k ps) := by simp [rright]
    have e2 : right (.mk k pts ps) = (own k pts && rights k ps) := by simp [right]
    rw [e1, e2]
    by_cases h0 : k = 0 ∨ k = 1 ∨ k = 2
    · cases ps with
      | nil =>
        have r1 : rrights k [] = true := by simp [rrights]
        have r2 : rights k [] = true := by simp [rights]
        rw [r1, r2]
        rcases h0 with rfl | rfl | rfl <;> simp [rfits, own]
      | cons p l =>
        have f1 : rfits k pts (p :: l).length = false := by rcases h0 with rfl | rfl | rfl <;> simp [rfits]
        have f2 : (own k pts && rights k (p :: l)) = false := by
          cases hr : rights k (p :: l) with
          | false => simp
          | true =>
            exfalso
            have e3 : rights k (p :: l) = ((fits k p.kind && right p) && rights k l) := by simp [rights]
            rw [e3] at hr
            simp only [Bool.and_eq_true] at hr
            have := right_kind hr.1.2
            have hf := hr.1.1
            rcases h0 with rfl | rfl | rfl
            · simp [fits] at hf
            · simp [fits, partOf] at hf; omega
            · simp [fits, partOf] at hf; omega
        rw [f1, f2]; rfl
    · have e3 : rfits k pts ps.length = own k pts := by
        unfold rfits own isKind
        rw [if_neg (by omega), if_neg (by omega), if_neg (by omega), if_neg (by omega), if_neg (by omega), if_neg (by omega)]
        rw [Bool.eq_iff_iff]
        simp only [Bool.and_eq_true, decide_eq_true_eq]
        omega
      rw [e3]
      cases ho : own k pts with
      | false => simp
      | true =>
        have hk : 3 ≤ k ∧ k ≤ 7 := by
          unfold own isKind at ho
          rw [if_neg (by omega), if_neg (by omega), if_neg (by omega)] at ho
          simp only [Bool.and_eq_true, decide_eq_true_eq] at ho
          omega
        rw [ih k hk.1 hk.2]
theorem rrights_eq : ∀ (l : List Sh) (k : Int), 3 ≤ k → k ≤ 7 → rrights k l = rights k l
  | [], k, _, _ => by simp [rrights, rights]
  | p :: l, k, h3, h7 => by
    have i1 := rright_eq p
    have i2 := rrights_eq l k h3 h7
    have e1 : rrights k (p :: l) = ((rp k p.kind && rright p) && rrights k l) := by simp [rrights]
    have e2 : rights k (p :: l) = ((fits k p.kind && right p) && rights k l) := by simp [rights]
    rw [e1, e2, i1, i2]
    cases hr : right p with
    | false => simp
    | true => rw [rp_fits h3 h7 (right_kind hr)]
end
/-- The reference's order of the same checks. -/
theorem rcheck_eq (s : Sh) : (decide (s.kind < 1) || !rright s) = !(isKind s.kind && right s) := by
  rw [rright_eq]
  cases hr : right s with
  | false => simp
  | true =>
    have := right_kind hr
    rw [Bool.eq_iff_iff]
    simp [isKind]
    omega
end Go.Proofs.YtfknhpgelleenaaDoor.MShape
namespace Go.Proofs.YtfknhpgelleenaaDoor.K
open Go Go.RowKit Go.Proofs.YtfknhpgelleenaaDoorW.PrintWords Go.Proofs.YtfknhpgelleenaaDoorW.PrintLast Go.Proofs.YtfknhpgelleenaaDoorW.PrintMore
set_option linter.unusedVariables false
set_option linter.unusedSimpArgs false
open Go.Proofs.YtfknhpgelleenaaDoor.MShape (Sh ends rfits)
set_option maxHeartbeats 2000000 in
set_option maxRecDepth 100000 in
theorem rfits_calls (k : Int) (pts : List (Int × Int)) (a a' : Option Addr) (c n' m' : Nat) (w : World) (B : Nat) (hp : PtsB B w (.slice a pts.length c) pts) (r : Bool) (hr : rfits k pts n' = r) :
    Calls Tryd.prog 91 #[.agg #[.int .i64 k, .slice a pts.length c, .slice a' n' m']] w fun e w' => e = .returned (.bool r) ∧ Bel w w' := by
  subst hr
  obtain ⟨a0, c0, e0, _, hm, hx⟩ := hp
  injection e0 with e1 e2 e3
  subst e1
  clear e2 e3
  obtain ⟨bz, hbz⟩ : ∃ b, ((n' : Int) == 0) = b := ⟨_, rfl⟩
  have hbd : decide (n' = 0) = bz := by rw [← hbz, Bool.eq_iff_iff]; simp
  have S := Blk.new w #[.int .i64 k, .slice a pts.length c, .slice a' n' m'] 25
  have HB : Hid (Below w.heap.size w (w.alloc (.cells #[.int .i64 k, .slice a pts.length c, .slice a' n' m'] 25))) := Lib.hid ((Below.refl _ w).alloc (Nat.le_refl _) _)
  by_cases h0 : k = 0
  · subst h0
    by_cases h4 : 4 ≤ pts.length
    · obtain ⟨b, off, rfl, _, x0, y0⟩ := hx 0 (by omega)
      obtain ⟨b', off', e', _, x1, y1⟩ := hx (pts.length - 1) (by omega)
      obtain ⟨rfl, rfl⟩ : b = b' ∧ off = off' := by simpa using e'
      have hv : rfits 0 pts n' = ((pts[0].1 == pts[pts.length - 1].1 && pts[0].2 == pts[pts.length - 1].2) && bz) := by
        unfold rfits ends
        rw [if_pos rfl, decide_eq_true h4, Bool.true_and, hbd]
        simp [List.getD_eq_getElem?_getD, List.getElem?_eq_getElem (show 0 < pts.length by omega), List.getElem?_eq_getElem (show pts.length - 1 < pts.length by omega)]
      rw [hv]
      obtain ⟨p, hp⟩ : ∃ p, pts[0] = p := ⟨_, rfl⟩
      obtain ⟨q, hq⟩ : ∃ p, pts[pts.length - 1] = p := ⟨_, rfl⟩
      rw [hp] at x0 y0 ⊢
      rw [hq] at x1 y1 ⊢
      have q1 := eqPt p.1 p.2 q.1 q.2
      obtain ⟨n, hn⟩ : ∃ n, pts.length = n := ⟨_, rfl⟩
      rw [hn] at h4 hm x1 y1 S HB ⊢
      clear hv hp hq hn e' hx hbd
      have h4' : decide ((4 : Int) ≤ (n : Int)) = true := by simp; omega
      have hwr : IntKind.i64.wrap ((n : Int) - 1) = (n : Int) - 1 := IntWalk.i64_in _ (by omega)
      have hb1 : (0 : Int) ≤ (n : Int) - 1 := by omega
      have hb2 : (n : Int) - 1 < (n : Int) := by omega
      have hb3 : ((n : Int) - 1).toNat = n - 1 := by omega
      have hb4 : (0 : Int) < (n : Int) := by omega
      clear h4
      go_enter Tryd.func91, Tryd.ntmps91
      go_upto_region 1 with (fail)
      obtain ⟨W, hW⟩ : ∃ W, w.alloc (.cells #[.int .i64 0, .slice (some ⟨b, off, none⟩) n c, .slice a' n' m'] 25) = W := ⟨_, rfl⟩
      rw [hW] at S HB ⊢
      clear hW
      obtain ⟨s0, s1, s2⟩ := Blk.cells3 S
      have x0 := kc ((Bel.refl W)) (HB.out.cell (p := ⟨b, off + 0 * 2, none⟩) (World.block_lt_of_cell? _ _ x0) |>.trans x0)
      have y0 := HB.out.cell (p := ⟨b, off + 0 * 2 + 1, none⟩) (World.block_lt_of_cell? _ _ y0) |>.trans y0
      have x1 := HB.out.cell (p := ⟨b, off + (n - 1) * 2, none⟩) (World.block_lt_of_cell? _ _ x1) |>.trans x1
      have y1 := HB.out.cell (p := ⟨b, off + (n - 1) * 2 + 1, none⟩) (World.block_lt_of_cell? _ _ y1) |>.trans y1
      rw [Nat.zero_mul, Nat.add_zero] at x0 y0
      go_upto_region 4 with (fail)
      cases hpq : (p.1 == q.1 && p.2 == q.2)
      all_goals
        rw [hpq] at q1
        have HPQ := Lib.hid hpq
        clear hpq
        go_quiet (fail)
        go_wp2
        go_ret
        exact ⟨by rw [HPQ.out]; first | rfl | simp, below_drewN HB.out _⟩
    · have hv : rfits 0 pts n' = false := by unfold rfits; rw [if_pos rfl, decide_eq_false h4]; rfl
      rw [hv]
      have h4' : decide ((4 : Int) ≤ (pts.length : Int)) = false := by simp; omega
      clear hv h4 hx hbd
      go_enter Tryd.func91, Tryd.ntmps91
      go_upto_region 1 with (fail)
      obtain ⟨W, hW⟩ : ∃ W, w.alloc (.cells #[.int .i64 0, .slice a pts.length c, .slice a' n' m'] 25) = W := ⟨_, rfl⟩
      rw [hW] at S HB ⊢
      clear hW
      obtain ⟨s0, s1, s2⟩ := Blk.cells3 S
      go_upto_region 4 with (fail)
      go_quiet (fail)
      go_wp2
      go_ret
      exact ⟨by first | rfl | simp, below_drewN HB.out _⟩
  have hk0 : (k == 0) = false := by simpa using h0
  obtain ⟨v, hv⟩ : ∃ b, rfits k pts n' = b := ⟨_, rfl⟩
  rw [hv]
  unfold rfits at hv
  rw [if_neg h0, hbd] at hv
  have HV := Lib.hid hv
  clear hv hx hbd h0
  by_cases h1 : k = 1
  · subst h1
    have hv := HV.out
    rw [if_pos rfl] at hv
    have HV := Lib.hid hv
    clear hv
    cases hd : decide ((pts.length : Int) ≤ 1)
    all_goals
      have HD := Lib.hid hd
      go_enter Tryd.func91, Tryd.ntmps91
      go_upto_region 1 with (fail)
      obtain ⟨W, hW⟩ : ∃ W, w.alloc (.cells #[.int .i64 1, .slice a pts.length c, .slice a' n' m'] 25) = W := ⟨_, rfl⟩
      rw [hW] at S HB ⊢
      clear hW
      obtain ⟨s0, s1, s2⟩ := Blk.cells3 S
      go_wp2
      go_ret
      exact ⟨by have h8 := HD.out; have h9 := HV.out; rw [show decide (pts.length ≤ 1) = decide ((pts.length : Int) ≤ 1) by rw [Bool.eq_iff_iff]; simp; omega, h8] at h9; rw [← h9]; first | rfl | simp, HB.out⟩
  have hk1 : (k == 1) = false := by simpa using h1
  have hv := HV.out
  rw [if_neg h1] at hv
  have HV := Lib.hid hv
  clear hv h1
  by_cases h2 : k = 2
  · subst h2
    have hv := HV.out
    rw [if_pos rfl] at hv
    have HV := Lib.hid hv
    clear hv
    cases hd : ((pts.length : Int) != 1)
    all_goals
      have HD := Lib.hid hd
      go_enter Tryd.func91, Tryd.ntmps91
      go_upto_region 1 with (fail)
      obtain ⟨W, hW⟩ : ∃ W, w.alloc (.cells #[.int .i64 2, .slice a pts.length c, .slice a' n' m'] 25) = W := ⟨_, rfl⟩
      rw [hW] at S HB ⊢
      clear hW
      obtain ⟨s0, s1, s2⟩ := Blk.cells3 S
      go_wp2
      go_ret
      exact ⟨by have h8 := HD.out; have h9 := HV.out; rw [show (!decide (pts.length = 1)) = ((pts.length : Int) != 1) by rw [Bool.eq_iff_iff]; simp; omega, h8] at h9; rw [← h9]; first | rfl | simp, HB.out⟩
  have hk2 : (k == 2) = false := by simpa using h2
  have hv := HV.out
  rw [if_neg h2] at hv
  have HV := Lib.hid hv
  clear hv h2
  cases h3 : decide ((3 : Int) ≤ k) <;> cases h7 : decide (k ≤ 7)
  all_goals
    have HD3 := Lib.hid h3
    have HD7 := Lib.hid h7
    go_enter Tryd.func91, Tryd.ntmps91
    go_upto_region 1 with (fail)
    obtain ⟨W, hW⟩ : ∃ W, w.alloc (.cells #[.int .i64 k, .slice a pts.length c, .slice a' n' m'] 25) = W := ⟨_, rfl⟩
    rw [hW] at S HB ⊢
    clear hW
    obtain ⟨s0, s1, s2⟩ := Blk.cells3 S
    go_wp2
    go_ret
    exact ⟨by have h8 := HD3.out; have h7 := HD7.out; have h9 := HV.out; rw [h8, h7, show decide (pts.length = 0) = ((pts.length : Int) == 0) by rw [Bool.eq_iff_iff]; simp] at h9; rw [← h9]; first | rfl | simp, HB.out⟩
end Go.Proofs.YtfknhpgelleenaaDoor.K
namespace Go.Proofs.YtfknhpgelleenaaDoor.K
open Go Go.RowKit Go.Proofs.YtfknhpgelleenaaDoorW.PrintWords Go.Proofs.YtfknhpgelleenaaDoorW.PrintLast Go.Proofs.YtfknhpgelleenaaDoorW.PrintMore
set_option linter.unusedVariables false
set_option linter.unusedSimpArgs false
open Go.Proofs.YtfknhpgelleenaaDoor.MShape (Sh rfits rp rright rrights)
theorem rrights_cons (k : Int) (p : Sh) (ps : List Sh) : rrights k (p :: ps) = ((rp k p.kind && rright p) && rrights k ps) := by first | rfl | (conv => lhs; unfold rrights)
theorem rrights_nil (k : Int) : rrights k [] = true := by first | rfl | (conv => lhs; unfold rrights)
theorem rright_mk (k : Int) (pts : List (Int × Int)) (ps : List Sh) : rright (.mk k pts ps) = (rfits k pts ps.length && rrights k ps) := by first | rfl | (conv => lhs; unfold rright)
theorem rfits_parts {k : Int} {pts : List (Int × Int)} {n : Nat} (h : rfits k pts n = true) (h0 : 0 < n) : 3 ≤ k ∧ k ≤ 7 := by
  unfold rfits at h
  by_cases e0 : k = 0
  · rw [if_pos e0] at h; simp at h; omega
  by_cases e1 : k = 1
  · rw [if_neg e0, if_pos e1] at h; simp at h; omega
  by_cases e2 : k = 2
  · rw [if_neg e0, if_neg e1, if_pos e2] at h; simp at h; omega
  rw [if_neg e0, if_neg e1, if_neg e2] at h
  simp at h
  omega
theorem prt_eq (k : Int) : prt k = MShape.rpartOf k := by unfold prt MShape.rpartOf; repeat (first | rfl | split) <;> omega
set_option maxHeartbeats 4000000 in
set_option maxRecDepth 100000 in
theorem rright_calls : ∀ (D : Nat) (s : Sh) (c : Value × Value × Value) (w : World) (B : Nat), B ≤ w.heap.size → ShB B w D c s →
    Calls Tryd.prog 72 #[.agg #[c.1, c.2.1, c.2.2]] w fun e w' => e = .returned (.bool (rright s)) ∧ Bel w w' := by
  intro D
  induction D with
  | zero => intro s c w B _ h; exact h.elim
  | succ D ih =>
    intro s c w B hB hs
    have IH := Lib.hid ih
    clear ih
    obtain ⟨kind, pts, ps⟩ := s
    obtain ⟨e0, hpts, cs, hcs, ⟨a2, c2, e2, hc2, hm2, hx2⟩, hsub⟩ := hs
    have hpts' := hpts
    obtain ⟨a1, c1, e1, hc1, hm1, -⟩ := hpts
    obtain ⟨v0, v1, v2⟩ := c
    simp only at e0 e1 e2 hpts'
    subst e0 e1 e2
    dsimp only
    have HX := Lib.hid hx2
    have HSUB := Lib.hid hsub
    have HCS := Lib.hid hcs
    have HPT := Lib.hid hpts'
    have HBB := Lib.hid hB
    have HFI := Lib.hid (fun W h => rfits_calls kind pts a1 a2 c1 cs.length c2 W B h)
    rw [rright_mk]
    clear hx2 hsub hpts' hc1 hc2 hm1 hB
    obtain ⟨rf, hrf⟩ : ∃ b, rfits kind pts ps.length = b := ⟨_, rfl⟩
    have HRF := Lib.hid (show rfits kind pts cs.length = rf by rw [hcs]; exact hrf)
    rw [hrf]
    clear hrf hcs
    have S := Blk.new w #[.int .i64 kind, .slice a1 pts.length c1, .slice a2 cs.length c2] 25
    have HB : Hid (Below w.heap.size w (w.alloc (.cells #[.int .i64 kind, .slice a1 pts.length c1, .slice a2 cs.length c2] 25))) := Lib.hid ((Below.refl _ w).alloc (Nat.le_refl _) _)
    go_enter Tryd.func72, Tryd.ntmps72
    go_upto_region 1 with (fail)
    obtain ⟨W, hW⟩ : ∃ X, w.alloc (.cells #[.int .i64 kind, .slice a1 pts.length c1, .slice a2 cs.length c2] 25) = X := ⟨_, rfl⟩
    rw [hW] at S HB ⊢
    obtain ⟨gs, hg⟩ : ∃ X, w.heap.size = X := ⟨_, rfl⟩
    rw [hg] at S ⊢
    clear hW hg
    obtain ⟨s0, s1, s2⟩ := Blk.cells3 S
    have HF1 := Lib.hid (HFI.out W (HPT.out.keep (KeepB.bel HB.out)) rf HRF.out)
    have HSB := Lib.hid S
    clear S HFI
    cases rf
    · go_wp2_with (go_at_call 91; refine (HF1.out).mono ?_; rintro e W1 ⟨rfl, hb1⟩)
      go_ret
      exact ⟨by first | rfl | simp, bthen HB.out hb1⟩
    go_upto_region 3 with (go_at_call 91; refine (HF1.out).mono ?_; rintro e W1 ⟨rfl, hb1⟩)
    have HB1 := Lib.hid (bthen HB.out hb1)
    have HSB1 := Lib.hid (Blk.bel HSB.out hb1)
    clear s0 s1 s2 hb1 HF1
    obtain ⟨s0, s1, s2⟩ := Blk.cells3 HSB1.out
    have HKB := Lib.hid (KeepB.bel (B := B) HB1.out)
    have HSZ := Lib.hid (show B ≤ W1.heap.size by have := HB1.out.size; have := HBB.out; omega)
    go_wp2
    clear s0 s1 s2
    obtain ⟨b3, hb3⟩ : ∃ b, rrights kind ps = b := ⟨_, rfl⟩
    have HR3 := Lib.hid hb3
    have hpost : (true && rrights kind ps) = b3 := hb3
    go_loopw [11] (fun i wr => ∃ (k : Nat), i = .int .i64 k ∧ k ≤ cs.length ∧ Hid (Bel W1 wr) ∧ Hid (rrights kind (ps.drop k) = b3)) (fun i _ => cs.length - (intOf i).toNat)
    case atStart => exact ⟨0, rfl, by omega, Lib.hid (Below.refl _ _), Lib.hid (by rw [List.drop_zero]; exact hb3)⟩
    case round =>
      have HPO := Lib.hid hpost
      clear hb3 hpost
      obtain ⟨k, rfl, hk, HBk, HRk⟩ := hrel
      by_cases hlt : k < cs.length
      · obtain ⟨b, off, rfl, hbB, x0, x1, x2⟩ := HX.out k hlt
        have hpk : k < ps.length := by have := HCS.out; omega
        have KB : KeepB B w wr := HKB.out.trans (KeepB.bel HBk.out)
        have x0 := KB.cell hbB x0
        have x1 := KB.cell hbB x1
        have x2 := KB.cell hbB x2
        have hsh := (HSUB.out k cs[k] ps[k] (List.getElem?_eq_getElem hlt) (List.getElem?_eq_getElem hpk)).keep KB
        have hrk := HRk.out
        rw [List.drop_eq_getElem_cons hpk, rrights_cons] at hrk
        obtain ⟨xk, hxk⟩ : ∃ x, cs[k] = x := ⟨_, rfl⟩
        obtain ⟨pk, hpk2⟩ : ∃ x, ps[k] = x := ⟨_, rfl⟩
        rw [hxk] at x0 x1 x2 hsh
        rw [hpk2] at hsh hrk
        have hkd := ShB.kind hsh
        obtain ⟨kind', u1, u2, u3, u4, u5, u6, rfl⟩ := hsh.forms
        dsimp only at x0 x1 x2 hkd
        have hkd2 : kind' = pk.kind := by injection hkd
        rw [← hkd2] at hrk
        have HRN := Lib.hid hrk
        have HKK := Lib.hid (rfits_parts HRF.out (by omega))
        have HLT := Lib.hid hlt
        have HSH := Lib.hid hsh
        clear hxk hpk2 hsh KB hpk hrk hkd hkd2 HRk
        go_upto_region 6 with (fail)
        have P := Blk.new wr #[.int .i64 kind', .slice u1 u2 u3, .slice u4 u5 u6] 25
        have HB5 : Hid (Bel wr (wr.alloc (.cells #[.int .i64 kind', .slice u1 u2 u3, .slice u4 u5 u6] 25))) := Lib.hid ((Below.refl _ wr).alloc (Nat.le_refl _) _)
        obtain ⟨w5, hW⟩ : ∃ X, wr.alloc (.cells #[.int .i64 kind', .slice u1 u2 u3, .slice u4 u5 u6] 25) = X := ⟨_, rfl⟩
        rw [hW] at P HB5 ⊢
        obtain ⟨gp, hg⟩ : ∃ X, wr.heap.size = X := ⟨_, rfl⟩
        rw [hg] at P ⊢
        clear hW hg x0 x1 x2
        have HP5 := Lib.hid P
        have HS5 := Lib.hid (Blk.bel HSB1.out (bthen HBk.out HB5.out))
        have HBw5 := Lib.hid (bthen HBk.out HB5.out)
        clear P
        obtain ⟨q, hq⟩ : ∃ q, rright pk = q := ⟨_, rfl⟩
        have HRT : Hid (∀ W', Bel w5 W' → Calls Tryd.prog 72 #[.agg #[.int .i64 kind', .slice u1 u2 u3, .slice u4 u5 u6]] W' fun e w'' => e = .returned (.bool q) ∧ Bel W' w'') := Lib.hid (fun W' h => by
          have h9 := IH.out pk _ W' B (by have := HSZ.out; have := HBw5.out.size; have := h.size; omega) (HSH.out.keep (KeepB.bel (bthen HB5.out h)))
          rw [hq] at h9
          exact h9)
        rw [hq] at HRN
        clear hq
        have HPA : Hid (∀ W', Calls Tryd.prog 27 #[.int .i64 kind] W' fun e w' => e = .returned (.int .i64 (MShape.rpartOf kind)) ∧ W' = w') := Lib.hid (fun W' => by have h9 := rpart_calls kind W'; rw [prt_eq] at h9; exact h9)
        by_cases hk7 : kind = 7
        · have HK7 : Hid ((kind == 7) = true) := Lib.hid (by simp [hk7])
          have HKL : Hid (decide (kind < 7) = false) := Lib.hid (by simp [hk7])
          have HRP : Hid (rp kind kind' = !decide (kind' < 1)) := Lib.hid (by unfold rp; rw [if_pos hk7])
          clear hk7
          cases hl1 : decide (kind' < 1)
          · have HL1 := Lib.hid hl1
            rw [hl1] at HRP
            rw [HRP.out] at HRN
            clear hl1
            refine Reg.region_mono (P := Tryd.prog) (Ext := Bel) (R := fun i v W => match i with
                | 0 => v = .pointer (some ⟨gs, 0, none⟩)
                | 1 => v = .int .i64 kind
                | 2 => v = .bool true
                | 3 => v = .bool true
                | 4 => v = .pointer (some ⟨gp, 0, none⟩)
                | 5 => v = .int .i64 kind'
                | 6 => v = .bool false
                | 7 => v = .bool false
                | 8 => v = .bool false
                | 9 => v = .pointer (some ⟨gs, 0, none⟩)
                | 10 => v = .int .i64 kind
                | 11 => v = .bool false
                | 12 => v = .bool false
                | 13 => v = undef
                | 14 => v = undef
                | 15 => v = undef
                | 16 => v = undef
                | 17 => v = undef
                | 18 => v = undef
                | 19 => v = .bool false
                | 20 => v = .bool false
                | 21 => v = .bool false
                | 22 => v = .agg #[.int .i64 kind', .slice u1 u2 u3, .slice u4 u5 u6]
                | 23 => v = .bool q
                | 24 => v = .bool (!q)
                | 25 => v = .bool (!q)
                | _ => True) (fun W => Below w5.heap.size w5 W) rfl (by kernel_rfl) (by kernel_rfl) (Bel.drew w5) (fun W W' h h' => bthen h h') Bel.refl (by intro j v W W' hx h; split at h <;> exact h) ?_ ?_
            · intro i oi hoi a W hW need old
              match i, hoi with
              | 0, hoi =>
                simp only [List.getElem?_toArray, List.getElem?_cons_succ, List.getElem?_cons_zero, Option.some.injEq] at hoi
                subst hoi
                refine Reg.ob_plain rfl ?_
                have e1 : a.eval (.tmp 1) = .pointer (some ⟨gs, 0, none⟩) := old 1 (by kernel_rfl)
                refine Reg.wp_val (W' := W) (v := .pointer (some ⟨gs, 0, none⟩)) (by simp only [execOp, e1, Reg.eval_const, resolve, invoke, builtin, List.map_toArray, List.map_cons, List.map_nil, Option.map_some, Option.map_none]; (first | rfl | go_simp | (go_simp; rfl))) ⟨_, rfl, Bel.refl W, rfl⟩
              | 1, hoi =>
                simp only [List.getElem?_toArray, List.getElem?_cons_succ, List.getElem?_cons_zero, Option.some.injEq] at hoi
                subst hoi
                refine Reg.ob_plain rfl ?_
                have e15 : a.eval (.tmp 15) = .pointer (some ⟨gs, 0, none⟩) := need 0 _ 15 rfl rfl (by kernel_rfl)
                obtain ⟨c0, c1, c2⟩ := Blk.cells3 (Blk.bel HS5.out hW)
                refine Reg.wp_val (W' := W) (v := .int .i64 kind) (by simp only [execOp, e15, Reg.eval_const, resolve, invoke, builtin, List.map_toArray, List.map_cons, List.map_nil, Option.map_some, Option.map_none]; (first | rfl | go_simp | (go_simp; rfl))) ⟨_, rfl, Bel.refl W, rfl⟩
              | 2, hoi =>
                simp only [List.getElem?_toArray, List.getElem?_cons_succ, List.getElem?_cons_zero, Option.some.injEq] at hoi
                subst hoi
                refine Reg.ob_plain rfl ?_
                have e16 : a.eval (.tmp 16) = .int .i64 kind := need 1 _ 16 rfl rfl (by kernel_rfl)
                have n1 := HK7.out
                refine Reg.wp_val (W' := W) (v := .bool true) (by simp only [execOp, e16, Reg.eval_const, resolve, invoke, builtin, List.map_toArray, List.map_cons, List.map_nil, Option.map_some, Option.map_none]; (first | rfl | go_simp | (go_simp; rfl))) ⟨_, rfl, Bel.refl W, rfl⟩
              | 3, hoi =>
                simp only [List.getElem?_toArray, List.getElem?_cons_succ, List.getElem?_cons_zero, Option.some.injEq] at hoi
                subst hoi
                refine Reg.ob_plain rfl ?_
                have e17 : a.eval (.tmp 17) = .bool true := need 2 _ 17 rfl rfl (by kernel_rfl)
                refine Reg.wp_val (W' := W) (v := _) (by simp only [execOp, e17, Reg.eval_const]; rfl) ⟨_, rfl, Bel.refl W, rfl⟩
              | 4, hoi =>
                simp only [List.getElem?_toArray, List.getElem?_cons_succ, List.getElem?_cons_zero, Option.some.injEq] at hoi
                subst hoi
                have eg : a.eval (.tmp 18) = .bool true := need 3 _ 18 rfl rfl (by kernel_rfl)
                refine Reg.ob_yes rfl rfl rfl eg ?_
                have e4 : a.eval (.tmp 4) = .pointer (some ⟨gp, 0, none⟩) := old 4 (by kernel_rfl)
                refine Reg.wp_val (W' := W) (v := .pointer (some ⟨gp, 0, none⟩)) (by simp only [execOp, e4, Reg.eval_const, resolve, invoke, builtin, List.map_toArray, List.map_cons, List.map_nil, Option.map_some, Option.map_none]; (first | rfl | go_simp | (go_simp; rfl))) ⟨_, rfl, Bel.refl W, rfl⟩
              | 5, hoi =>
                simp only [List.getElem?_toArray, List.getElem?_cons_succ, List.getElem?_cons_zero, Option.some.injEq] at hoi
                subst hoi
                have eg : a.eval (.tmp 18) = .bool true := need 3 _ 18 rfl rfl (by kernel_rfl)
                refine Reg.ob_yes rfl rfl rfl eg ?_
                have e19 : a.eval (.tmp 19) = .pointer (some ⟨gp, 0, none⟩) := need 4 _ 19 rfl rfl (by kernel_rfl)
                obtain ⟨c0, c1, c2⟩ := Blk.cells3 (Blk.bel HP5.out hW)
                refine Reg.wp_val (W' := W) (v := .int .i64 kind') (by simp only [execOp, e19, Reg.eval_const, resolve, invoke, builtin, List.map_toArray, List.map_cons, List.map_nil, Option.map_some, Option.map_none]; (first | rfl | go_simp | (go_simp; rfl))) ⟨_, rfl, Bel.refl W, rfl⟩
              | 6, hoi =>
                simp only [List.getElem?_toArray, List.getElem?_cons_succ, List.getElem?_cons_zero, Option.some.injEq] at hoi
                subst hoi
                have eg : a.eval (.tmp 18) = .bool true := need 3 _ 18 rfl rfl (by kernel_rfl)
                refine Reg.ob_yes rfl rfl rfl eg ?_
                have e20 : a.eval (.tmp 20) = .int .i64 kind' := need 5 _ 20 rfl rfl (by kernel_rfl)
                have n1 := HL1.out
                refine Reg.wp_val (W' := W) (v := .bool false) (by simp only [execOp, e20, Reg.eval_const, resolve, invoke, builtin, List.map_toArray, List.map_cons, List.map_nil, Option.map_some, Option.map_none]; (first | rfl | go_simp | (go_simp; rfl))) ⟨_, rfl, Bel.refl W, rfl⟩
              | 7, hoi =>
                simp only [List.getElem?_toArray, List.getElem?_cons_succ, List.getElem?_cons_zero, Option.some.injEq] at hoi
                subst hoi
                refine Reg.ob_plain rfl ?_
                have e18 : a.eval (.tmp 18) = .bool true := need 3 _ 18 rfl rfl (by kernel_rfl)
                have e21 : a.eval (.tmp 21) = .bool false := need 6 _ 21 rfl rfl (by kernel_rfl)
                refine Reg.wp_val (W' := W) (v := .bool false) (by simp only [execOp, e18, e21, Reg.eval_const, resolve, invoke, builtin, List.map_toArray, List.map_cons, List.map_nil, Option.map_some, Option.map_none]; (first | rfl | go_simp | (go_simp; rfl))) ⟨_, rfl, Bel.refl W, rfl⟩
              | 8, hoi =>
                simp only [List.getElem?_toArray, List.getElem?_cons_succ, List.getElem?_cons_zero, Option.some.injEq] at hoi
                subst hoi
                refine Reg.ob_plain rfl ?_
                have e22 : a.eval (.tmp 22) = .bool false := need 7 _ 22 rfl rfl (by kernel_rfl)
                refine Reg.wp_val (W' := W) (v := _) (by simp only [execOp, e22, Reg.eval_const]; rfl) ⟨_, rfl, Bel.refl W, rfl⟩
              | 9, hoi =>
                simp only [List.getElem?_toArray, List.getElem?_cons_succ, List.getElem?_cons_zero, Option.some.injEq] at hoi
                subst hoi
                have eg : a.eval (.tmp 23) = .bool false := need 8 _ 23 rfl rfl (by kernel_rfl)
                refine Reg.ob_yes rfl rfl rfl eg ?_
                have e1 : a.eval (.tmp 1) = .pointer (some ⟨gs, 0, none⟩) := old 1 (by kernel_rfl)
                refine Reg.wp_val (W' := W) (v := .pointer (some ⟨gs, 0, none⟩)) (by simp only [execOp, e1, Reg.eval_const, resolve, invoke, builtin, List.map_toArray, List.map_cons, List.map_nil, Option.map_some, Option.map_none]; (first | rfl | go_simp | (go_simp; rfl))) ⟨_, rfl, Bel.refl W, rfl⟩
              | 10, hoi =>
                simp only [List.getElem?_toArray, List.getElem?_cons_succ, List.getElem?_cons_zero, Option.some.injEq] at hoi
                subst hoi
                have eg : a.eval (.tmp 23) = .bool false := need 8 _ 23 rfl rfl (by kernel_rfl)
                refine Reg.ob_yes rfl rfl rfl eg ?_
                have e24 : a.eval (.tmp 24) = .pointer (some ⟨gs, 0, none⟩) := need 9 _ 24 rfl rfl (by kernel_rfl)
                obtain ⟨c0, c1, c2⟩ := Blk.cells3 (Blk.bel HS5.out hW)
                refine Reg.wp_val (W' := W) (v := .int .i64 kind) (by simp only [execOp, e24, Reg.eval_const, resolve, invoke, builtin, List.map_toArray, List.map_cons, List.map_nil, Option.map_some, Option.map_none]; (first | rfl | go_simp | (go_simp; rfl))) ⟨_, rfl, Bel.refl W, rfl⟩
              | 11, hoi =>
                simp only [List.getElem?_toArray, List.getElem?_cons_succ, List.getElem?_cons_zero, Option.some.injEq] at hoi
                subst hoi
                have eg : a.eval (.tmp 23) = .bool false := need 8 _ 23 rfl rfl (by kernel_rfl)
                refine Reg.ob_yes rfl rfl rfl eg ?_
                have e25 : a.eval (.tmp 25) = .int .i64 kind := need 10 _ 25 rfl rfl (by kernel_rfl)
                have n1 := HKL.out
                refine Reg.wp_val (W' := W) (v := .bool false) (by simp only [execOp, e25, Reg.eval_const, resolve, invoke, builtin, List.map_toArray, List.map_cons, List.map_nil, Option.map_some, Option.map_none]; (first | rfl | go_simp | (go_simp; rfl))) ⟨_, rfl, Bel.refl W, rfl⟩
              | 12, hoi =>
                simp only [List.getElem?_toArray, List.getElem?_cons_succ, List.getElem?_cons_zero, Option.some.injEq] at hoi
                subst hoi
                have eg : a.eval (.tmp 23) = .bool false := need 8 _ 23 rfl rfl (by kernel_rfl)
                refine Reg.ob_yes rfl rfl rfl eg ?_
                have e26 : a.eval (.tmp 26) = .bool false := need 11 _ 26 rfl rfl (by kernel_rfl)
                refine Reg.wp_val (W' := W) (v := _) (by simp only [execOp, e26, Reg.eval_const]; rfl) ⟨_, rfl, Bel.refl W, rfl⟩
              | 13, hoi =>
                simp only [List.getElem?_toArray, List.getElem?_cons_succ, List.getElem?_cons_zero, Option.some.injEq] at hoi
                subst hoi
                have eg : a.eval (.tmp 27) = .bool false := need 12 _ 27 rfl rfl (by kernel_rfl)
                exact Reg.ob_no rfl rfl rfl eg (by decide) rfl
              | 14, hoi =>
                simp only [List.getElem?_toArray, List.getElem?_cons_succ, List.getElem?_cons_zero, Option.some.injEq] at hoi
                subst hoi
                have eg : a.eval (.tmp 27) = .bool false := need 12 _ 27 rfl rfl (by kernel_rfl)
                exact Reg.ob_no rfl rfl rfl eg (by decide) rfl
              | 15, hoi =>
                simp only [List.getElem?_toArray, List.getElem?_cons_succ, List.getElem?_cons_zero, Option.some.injEq] at hoi
                subst hoi
                have eg : a.eval (.tmp 27) = .bool false := need 12 _ 27 rfl rfl (by kernel_rfl)
                exact Reg.ob_no rfl rfl rfl eg (by decide) rfl
              | 16, hoi =>
                simp only [List.getElem?_toArray, List.getElem?_cons_succ, List.getElem?_cons_zero, Option.some.injEq] at hoi
                subst hoi
                have eg : a.eval (.tmp 27) = .bool false := need 12 _ 27 rfl rfl (by kernel_rfl)
                exact Reg.ob_no rfl rfl rfl eg (by decide) rfl
              | 17, hoi =>
                simp only [List.getElem?_toArray, List.getElem?_cons_succ, List.getElem?_cons_zero, Option.some.injEq] at hoi
                subst hoi
                have eg : a.eval (.tmp 27) = .bool false := need 12 _ 27 rfl rfl (by kernel_rfl)
                exact Reg.ob_no rfl rfl rfl eg (by decide) rfl
              | 18, hoi =>
                simp only [List.getElem?_toArray, List.getElem?_cons_succ, List.getElem?_cons_zero, Option.some.injEq] at hoi
                subst hoi
                have eg : a.eval (.tmp 27) = .bool false := need 12 _ 27 rfl rfl (by kernel_rfl)
                exact Reg.ob_no rfl rfl rfl eg (by decide) rfl
              | 19, hoi =>
                simp only [List.getElem?_toArray, List.getElem?_cons_succ, List.getElem?_cons_zero, Option.some.injEq] at hoi
                subst hoi
                have eg : a.eval (.tmp 23) = .bool false := need 8 _ 23 rfl rfl (by kernel_rfl)
                refine Reg.ob_yes rfl rfl rfl eg ?_
                have e27 : a.eval (.tmp 27) = .bool false := need 12 _ 27 rfl rfl (by kernel_rfl)
                have e33 : a.eval (.tmp 33) = undef := need 18 _ 33 rfl rfl (by kernel_rfl)
                refine Reg.wp_val (W' := W) (v := .bool false) (by simp only [execOp, e27, e33, Reg.eval_const, resolve, invoke, builtin, List.map_toArray, List.map_cons, List.map_nil, Option.map_some, Option.map_none]; (first | rfl | go_simp | (go_simp; rfl))) ⟨_, rfl, Bel.refl W, rfl⟩
              | 20, hoi =>
                simp only [List.getElem?_toArray, List.getElem?_cons_succ, List.getElem?_cons_zero, Option.some.injEq] at hoi
                subst hoi
                refine Reg.ob_plain rfl ?_
                have e23 : a.eval (.tmp 23) = .bool false := need 8 _ 23 rfl rfl (by kernel_rfl)
                have e34 : a.eval (.tmp 34) = .bool false := need 19 _ 34 rfl rfl (by kernel_rfl)
                refine Reg.wp_val (W' := W) (v := .bool false) (by simp only [execOp, e23, e34, Reg.eval_const, resolve, invoke, builtin, List.map_toArray, List.map_cons, List.map_nil, Option.map_some, Option.map_none]; (first | rfl | go_simp | (go_simp; rfl))) ⟨_, rfl, Bel.refl W, rfl⟩
              | 21, hoi =>
                simp only [List.getElem?_toArray, List.getElem?_cons_succ, List.getElem?_cons_zero, Option.some.injEq] at hoi
                subst hoi
                refine Reg.ob_plain rfl ?_
                have e35 : a.eval (.tmp 35) = .bool false := need 20 _ 35 rfl rfl (by kernel_rfl)
                refine Reg.wp_val (W' := W) (v := _) (by simp only [execOp, e35, Reg.eval_const]; rfl) ⟨_, rfl, Bel.refl W, rfl⟩
              | 22, hoi =>
                simp only [List.getElem?_toArray, List.getElem?_cons_succ, List.getElem?_cons_zero, Option.some.injEq] at hoi
                subst hoi
                have eg : a.eval (.tmp 36) = .bool false := need 21 _ 36 rfl rfl (by kernel_rfl)
                refine Reg.ob_yes rfl rfl rfl eg ?_
                have e4 : a.eval (.tmp 4) = .pointer (some ⟨gp, 0, none⟩) := old 4 (by kernel_rfl)
                obtain ⟨c0, c1, c2⟩ := Blk.cells3 (Blk.bel HP5.out hW)
                refine Reg.wp_val (W' := W) (v := .agg #[.int .i64 kind', .slice u1 u2 u3, .slice u4 u5 u6]) (by simp only [execOp, e4, Reg.eval_const, resolve, invoke, builtin, List.map_toArray, List.map_cons, List.map_nil, Option.map_some, Option.map_none]; (first | rfl | go_simp | (go_simp; rfl))) ⟨_, rfl, Bel.refl W, rfl⟩
              | 23, hoi =>
                simp only [List.getElem?_toArray, List.getElem?_cons_succ, List.getElem?_cons_zero, Option.some.injEq] at hoi
                subst hoi
                have eg : a.eval (.tmp 36) = .bool false := need 21 _ 36 rfl rfl (by kernel_rfl)
                refine Reg.ob_yes rfl rfl rfl eg ?_
                have e37 : a.eval (.tmp 37) = .agg #[.int .i64 kind', .slice u1 u2 u3, .slice u4 u5 u6] := need 22 _ 37 rfl rfl (by kernel_rfl)
                refine Reg.wp_call (f := 72) (args := #[.agg #[.int .i64 kind', .slice u1 u2 u3, .slice u4 u5 u6]]) (by simp only [execOp, e37, Reg.eval_const, resolve, invoke, List.map_toArray, List.map_cons, List.map_nil]; go_simp) ?_
                refine (HRT.out W hW).mono ?_
                rintro e W' ⟨rfl, hb⟩; exact ⟨_, rfl, _, rfl, hb, rfl⟩
              | 24, hoi =>
                simp only [List.getElem?_toArray, List.getElem?_cons_succ, List.getElem?_cons_zero, Option.some.injEq] at hoi
                subst hoi
                have eg : a.eval (.tmp 36) = .bool false := need 21 _ 36 rfl rfl (by kernel_rfl)
                refine Reg.ob_yes rfl rfl rfl eg ?_
                have e38 : a.eval (.tmp 38) = .bool q := need 23 _ 38 rfl rfl (by kernel_rfl)
                refine Reg.wp_val (W' := W) (v := .bool (!q)) (by simp only [execOp, e38, Reg.eval_const, resolve, invoke, builtin, List.map_toArray, List.map_cons, List.map_nil, Option.map_some, Option.map_none]; (first | rfl | go_simp | (go_simp; rfl))) ⟨_, rfl, Bel.refl W, rfl⟩
              | 25, hoi =>
                simp only [List.getElem?_toArray, List.getElem?_cons_succ, List.getElem?_cons_zero, Option.some.injEq] at hoi
                subst hoi
                refine Reg.ob_plain rfl ?_
                have e36 : a.eval (.tmp 36) = .bool false := need 21 _ 36 rfl rfl (by kernel_rfl)
                have e39 : a.eval (.tmp 39) = .bool (!q) := need 24 _ 39 rfl rfl (by kernel_rfl)
                refine Reg.wp_val (W' := W) (v := .bool (!q)) (by simp only [execOp, e36, e39, Reg.eval_const, resolve, invoke, builtin, List.map_toArray, List.map_cons, List.map_nil, Option.map_some, Option.map_none]; (first | rfl | go_simp | (go_simp; rfl))) ⟨_, rfl, Bel.refl W, rfl⟩
              | n + 26, hoi => simp at hoi
            · intro a w9 hW hsize hdef got same did
              have ha := Reg.act_of [15, 16, 17, 18, 19, 20, 21, 22, 23, 24, 25, 26, 27, 28, 29, 30, 31, 32, 33, 34, 35, 36, 37, 38, 39, 40] hsize hdef same (by kernel_rfl)
              simp only [List.foldl_cons, List.foldl_nil] at ha
              generalize a.tmps.getD 15 undef = y15 at ha
              generalize a.tmps.getD 16 undef = y16 at ha
              generalize a.tmps.getD 17 undef = y17 at ha
              generalize a.tmps.getD 18 undef = y18 at ha
              generalize a.tmps.getD 19 undef = y19 at ha
              generalize a.tmps.getD 20 undef = y20 at ha
              generalize a.tmps.getD 21 undef = y21 at ha
              generalize a.tmps.getD 22 undef = y22 at ha
              generalize a.tmps.getD 23 undef = y23 at ha
              generalize a.tmps.getD 24 undef = y24 at ha
              generalize a.tmps.getD 25 undef = y25 at ha
              generalize a.tmps.getD 26 undef = y26 at ha
              generalize a.tmps.getD 27 undef = y27 at ha
              generalize a.tmps.getD 28 undef = y28 at ha
              generalize a.tmps.getD 29 undef = y29 at ha
              generalize a.tmps.getD 30 undef = y30 at ha
              generalize a.tmps.getD 31 undef = y31 at ha
              generalize a.tmps.getD 32 undef = y32 at ha
              generalize a.tmps.getD 33 undef = y33 at ha
              generalize a.tmps.getD 34 undef = y34 at ha
              generalize a.tmps.getD 35 undef = y35 at ha
              generalize a.tmps.getD 36 undef = y36 at ha
              generalize a.tmps.getD 37 undef = y37 at ha
              generalize a.tmps.getD 38 undef = y38 at ha
              generalize a.tmps.getD 39 undef = y39 at ha
              have k40 := got 25 _ 40 rfl rfl
              simp only at k40
              rw [k40] at ha
              clear k40
              clear got same hsize hdef did
              subst ha
              simp only [List.setIfInBounds_toArray, List.set_cons_zero, List.set_cons_succ]
              have HB9 := Lib.hid (bthen HBw5.out hW)
              clear hW
              cases q
              · go_wp2
                go_ret
                exact ⟨by have h9 := HRN.out; rw [HPO.out, ← h9]; first | rfl | simp, bthen HB1.out HB9.out⟩
              · go_wp2
                go_roundw
                case rel => exact ⟨k + 1, by go_num, by have := HLT.out; omega, HB9, Lib.hid (by have h9 := HRN.out; simpa using h9)⟩
                case measure => (have := HLT.out; simp [intOf] <;> omega)
          · have HL1 := Lib.hid hl1
            rw [hl1] at HRP
            rw [HRP.out] at HRN
            clear hl1
            refine Reg.region_mono (P := Tryd.prog) (Ext := Bel) (R := fun i v W => match i with
                | 0 => v = .pointer (some ⟨gs, 0, none⟩)
                | 1 => v = .int .i64 kind
                | 2 => v = .bool true
                | 3 => v = .bool true
                | 4 => v = .pointer (some ⟨gp, 0, none⟩)
                | 5 => v = .int .i64 kind'
                | 6 => v = .bool true
                | 7 => v = .bool true
                | 8 => v = .bool true
                | 9 => v = undef
                | 10 => v = undef
                | 11 => v = undef
                | 12 => v = undef
                | 13 => v = undef
                | 14 => v = undef
                | 15 => v = undef
                | 16 => v = undef
                | 17 => v = undef
                | 18 => v = undef
                | 19 => v = undef
                | 20 => v = .bool true
                | 21 => v = .bool true
                | 22 => v = undef
                | 23 => v = undef
                | 24 => v = undef
                | 25 => v = .bool true
                | _ => True) (fun W => Below w5.heap.size w5 W) rfl (by kernel_rfl) (by kernel_rfl) (Bel.drew w5) (fun W W' h h' => bthen h h') Bel.refl (by intro j v W W' hx h; split at h <;> exact h) ?_ ?_
            · intro i oi hoi a W hW need old
              match i, hoi with
              | 0, hoi =>
                simp only [List.getElem?_toArray, List.getElem?_cons_succ, List.getElem?_cons_zero, Option.some.injEq] at hoi
                subst hoi
                refine Reg.ob_plain rfl ?_
                have e1 : a.eval (.tmp 1) = .pointer (some ⟨gs, 0, none⟩) := old 1 (by kernel_rfl)
                refine Reg.wp_val (W' := W) (v := .pointer (some ⟨gs, 0, none⟩)) (by simp only [execOp, e1, Reg.eval_const, resolve, invoke, builtin, List.map_toArray, List.map_cons, List.map_nil, Option.map_some, Option.map_none]; (first | rfl | go_simp | (go_simp; rfl))) ⟨_, rfl, Bel.refl W, rfl⟩
              | 1, hoi =>
                simp only [List.getElem?_toArray, List.getElem?_cons_succ, List.getElem?_cons_zero, Option.some.injEq] at hoi
                subst hoi
                refine Reg.ob_plain rfl ?_
                have e15 : a.eval (.tmp 15) = .pointer (some ⟨gs, 0, none⟩) := need 0 _ 15 rfl rfl (by kernel_rfl)
                obtain ⟨c0, c1, c2⟩ := Blk.cells3 (Blk.bel HS5.out hW)
                refine Reg.wp_val (W' := W) (v := .int .i64 kind) (by simp only [execOp, e15, Reg.eval_const, resolve, invoke, builtin, List.map_toArray, List.map_cons, List.map_nil, Option.map_some, Option.map_none]; (first | rfl | go_simp | (go_simp; rfl))) ⟨_, rfl, Bel.refl W, rfl⟩
              | 2, hoi =>
                simp only [List.getElem?_toArray, List.getElem?_cons_succ, List.getElem?_cons_zero, Option.some.injEq] at hoi
                subst hoi
                refine Reg.ob_plain rfl ?_
                have e16 : a.eval (.tmp 16) = .int .i64 kind := need 1 _ 16 rfl rfl (by kernel_rfl)
                have n1 := HK7.out
                refine Reg.wp_val (W' := W) (v := .bool true) (by simp only [execOp, e16, Reg.eval_const, resolve, invoke, builtin, List.map_toArray, List.map_cons, List.map_nil, Option.map_some, Option.map_none]; (first | rfl | go_simp | (go_simp; rfl))) ⟨_, rfl, Bel.refl W, rfl⟩
              | 3, hoi =>
                simp only [List.getElem?_toArray, List.getElem?_cons_succ, List.getElem?_cons_zero, Option.some.injEq] at hoi
                subst hoi
                refine Reg.ob_plain rfl ?_
                have e17 : a.eval (.tmp 17) = .bool true := need 2 _ 17 rfl rfl (by kernel_rfl)
                refine Reg.wp_val (W' := W) (v := _) (by simp only [execOp, e17, Reg.eval_const]; rfl) ⟨_, rfl, Bel.refl W, rfl⟩
              | 4, hoi =>
                simp only [List.getElem?_toArray, List.getElem?_cons_succ, List.getElem?_cons_zero, Option.some.injEq] at hoi
                subst hoi
                have eg : a.eval (.tmp 18) = .bool true := need 3 _ 18 rfl rfl (by kernel_rfl)
                refine Reg.ob_yes rfl rfl rfl eg ?_
                have e4 : a.eval (.tmp 4) = .pointer (some ⟨gp, 0, none⟩) := old 4 (by kernel_rfl)
                refine Reg.wp_val (W' := W) (v := .pointer (some ⟨gp, 0, none⟩)) (by simp only [execOp, e4, Reg.eval_const, resolve, invoke, builtin, List.map_toArray, List.map_cons, List.map_nil, Option.map_some, Option.map_none]; (first | rfl | go_simp | (go_simp; rfl))) ⟨_, rfl, Bel.refl W, rfl⟩
              | 5, hoi =>
                simp only [List.getElem?_toArray, List.getElem?_cons_succ, List.getElem?_cons_zero, Option.some.injEq] at hoi
                subst hoi
                have eg : a.eval (.tmp 18) = .bool true := need 3 _ 18 rfl rfl (by kernel_rfl)
                refine Reg.ob_yes rfl rfl rfl eg ?_
                have e19 : a.eval (.tmp 19) = .pointer (some ⟨gp, 0, none⟩) := need 4 _ 19 rfl rfl (by kernel_rfl)
                obtain ⟨c0, c1, c2⟩ := Blk.cells3 (Blk.bel HP5.out hW)
                refine Reg.wp_val (W' := W) (v := .int .i64 kind') (by simp only [execOp, e19, Reg.eval_const, resolve, invoke, builtin, List.map_toArray, List.map_cons, List.map_nil, Option.map_some, Option.map_none]; (first | rfl | go_simp | (go_simp; rfl))) ⟨_, rfl, Bel.refl W, rfl⟩
              | 6, hoi =>
                simp only [List.getElem?_toArray, List.getElem?_cons_succ, List.getElem?_cons_zero, Option.some.injEq] at hoi
                subst hoi
                have eg : a.eval (.tmp 18) = .bool true := need 3 _ 18 rfl rfl (by kernel_rfl)
                refine Reg.ob_yes rfl rfl rfl eg ?_
                have e20 : a.eval (.tmp 20) = .int .i64 kind' := need 5 _ 20 rfl rfl (by kernel_rfl)
                have n1 := HL1.out
                refine Reg.wp_val (W' := W) (v := .bool true) (by simp only [execOp, e20, Reg.eval_const, resolve, invoke, builtin, List.map_toArray, List.map_cons, List.map_nil, Option.map_some, Option.map_none]; (first | rfl | go_simp | (go_simp; rfl))) ⟨_, rfl, Bel.refl W, rfl⟩
              | 7, hoi =>
                simp only [List.getElem?_toArray, List.getElem?_cons_succ, List.getElem?_cons_zero, Option.some.injEq] at hoi
                subst hoi
                refine Reg.ob_plain rfl ?_
                have e18 : a.eval (.tmp 18) = .bool true := need 3 _ 18 rfl rfl (by kernel_rfl)
                have e21 : a.eval (.tmp 21) = .bool true := need 6 _ 21 rfl rfl (by kernel_rfl)
                refine Reg.wp_val (W' := W) (v := .bool true) (by simp only [execOp, e18, e21, Reg.eval_const, resolve, invoke, builtin, List.map_toArray, List.map_cons, List.map_nil, Option.map_some, Option.map_none]; (first | rfl | go_simp | (go_simp; rfl))) ⟨_, rfl, Bel.refl W, rfl⟩
              | 8, hoi =>
                simp only [List.getElem?_toArray, List.getElem?_cons_succ, List.getElem?_cons_zero, Option.some.injEq] at hoi
                subst hoi
                refine Reg.ob_plain rfl ?_
                have e22 : a.eval (.tmp 22) = .bool true := need 7 _ 22 rfl rfl (by kernel_rfl)
                refine Reg.wp_val (W' := W) (v := _) (by simp only [execOp, e22, Reg.eval_const]; rfl) ⟨_, rfl, Bel.refl W, rfl⟩
              | 9, hoi =>
                simp only [List.getElem?_toArray, List.getElem?_cons_succ, List.getElem?_cons_zero, Option.some.injEq] at hoi
                subst hoi
                have eg : a.eval (.tmp 23) = .bool true := need 8 _ 23 rfl rfl (by kernel_rfl)
                exact Reg.ob_no rfl rfl rfl eg (by decide) rfl
              | 10, hoi =>
                simp only [List.getElem?_toArray, List.getElem?_cons_succ, List.getElem?_cons_zero, Option.some.injEq] at hoi
                subst hoi
                have eg : a.eval (.tmp 23) = .bool true := need 8 _ 23 rfl rfl (by kernel_rfl)
                exact Reg.ob_no rfl rfl rfl eg (by decide) rfl
              | 11, hoi =>
                simp only [List.getElem?_toArray, List.getElem?_cons_succ, List.getElem?_cons_zero, Option.some.injEq] at hoi
                subst hoi
                have eg : a.eval (.tmp 23) = .bool true := need 8 _ 23 rfl rfl (by kernel_rfl)
                exact Reg.ob_no rfl rfl rfl eg (by decide) rfl
              | 12, hoi =>
                simp only [List.getElem?_toArray, List.getElem?_cons_succ, List.getElem?_cons_zero, Option.some.injEq] at hoi
                subst hoi
                have eg : a.eval (.tmp 23) = .bool true := need 8 _ 23 rfl rfl (by kernel_rfl)
                exact Reg.ob_no rfl rfl rfl eg (by decide) rfl
              | 13, hoi =>
                simp only [List.getElem?_toArray, List.getElem?_cons_succ, List.getElem?_cons_zero, Option.some.injEq] at hoi
                subst hoi
                have eg : a.eval (.tmp 27) = undef := need 12 _ 27 rfl rfl (by kernel_rfl)
                exact Reg.ob_off rfl rfl rfl eg rfl
              | 14, hoi =>
                simp only [List.getElem?_toArray, List.getElem?_cons_succ, List.getElem?_cons_zero, Option.some.injEq] at hoi
                subst hoi
                have eg : a.eval (.tmp 27) = undef := need 12 _ 27 rfl rfl (by kernel_rfl)
                exact Reg.ob_off rfl rfl rfl eg rfl
              | 15, hoi =>
                simp only [List.getElem?_toArray, List.getElem?_cons_succ, List.getElem?_cons_zero, Option.some.injEq] at hoi
                subst hoi
                have eg : a.eval (.tmp 27) = undef := need 12 _ 27 rfl rfl (by kernel_rfl)
                exact Reg.ob_off rfl rfl rfl eg rfl
              | 16, hoi =>
                simp only [List.getElem?_toArray, List.getElem?_cons_succ, List.getElem?_cons_zero, Option.some.injEq] at hoi
                subst hoi
                have eg : a.eval (.tmp 27) = undef := need 12 _ 27 rfl rfl (by kernel_rfl)
                exact Reg.ob_off rfl rfl rfl eg rfl
              | 17, hoi =>
                simp only [List.getElem?_toArray, List.getElem?_cons_succ, List.getElem?_cons_zero, Option.some.injEq] at hoi
                subst hoi
                have eg : a.eval (.tmp 27) = undef := need 12 _ 27 rfl rfl (by kernel_rfl)
                exact Reg.ob_off rfl rfl rfl eg rfl
              | 18, hoi =>
                simp only [List.getElem?_toArray, List.getElem?_cons_succ, List.getElem?_cons_zero, Option.some.injEq] at hoi
                subst hoi
                have eg : a.eval (.tmp 27) = undef := need 12 _ 27 rfl rfl (by kernel_rfl)
                exact Reg.ob_off rfl rfl rfl eg rfl
              | 19, hoi =>
                simp only [List.getElem?_toArray, List.getElem?_cons_succ, List.getElem?_cons_zero, Option.some.injEq] at hoi
                subst hoi
                have eg : a.eval (.tmp 23) = .bool true := need 8 _ 23 rfl rfl (by kernel_rfl)
                exact Reg.ob_no rfl rfl rfl eg (by decide) rfl
              | 20, hoi =>
                simp only [List.getElem?_toArray, List.getElem?_cons_succ, List.getElem?_cons_zero, Option.some.injEq] at hoi
                subst hoi
                refine Reg.ob_plain rfl ?_
                have e23 : a.eval (.tmp 23) = .bool true := need 8 _ 23 rfl rfl (by kernel_rfl)
                have e34 : a.eval (.tmp 34) = undef := need 19 _ 34 rfl rfl (by kernel_rfl)
                refine Reg.wp_val (W' := W) (v := .bool true) (by simp only [execOp, e23, e34, Reg.eval_const, resolve, invoke, builtin, List.map_toArray, List.map_cons, List.map_nil, Option.map_some, Option.map_none]; (first | rfl | go_simp | (go_simp; rfl))) ⟨_, rfl, Bel.refl W, rfl⟩
              | 21, hoi =>
                simp only [List.getElem?_toArray, List.getElem?_cons_succ, List.getElem?_cons_zero, Option.some.injEq] at hoi
                subst hoi
                refine Reg.ob_plain rfl ?_
                have e35 : a.eval (.tmp 35) = .bool true := need 20 _ 35 rfl rfl (by kernel_rfl)
                refine Reg.wp_val (W' := W) (v := _) (by simp only [execOp, e35, Reg.eval_const]; rfl) ⟨_, rfl, Bel.refl W, rfl⟩
              | 22, hoi =>
                simp only [List.getElem?_toArray, List.getElem?_cons_succ, List.getElem?_cons_zero, Option.some.injEq] at hoi
                subst hoi
                have eg : a.eval (.tmp 36) = .bool true := need 21 _ 36 rfl rfl (by kernel_rfl)
                exact Reg.ob_no rfl rfl rfl eg (by decide) rfl
              | 23, hoi =>
                simp only [List.getElem?_toArray, List.getElem?_cons_succ, List.getElem?_cons_zero, Option.some.injEq] at hoi
                subst hoi
                have eg : a.eval (.tmp 36) = .bool true := need 21 _ 36 rfl rfl (by kernel_rfl)
                exact Reg.ob_no rfl rfl rfl eg (by decide) rfl
              | 24, hoi =>
                simp only [List.getElem?_toArray, List.getElem?_cons_succ, List.getElem?_cons_zero, Option.some.injEq] at hoi
                subst hoi
                have eg : a.eval (.tmp 36) = .bool true := need 21 _ 36 rfl rfl (by kernel_rfl)
                exact Reg.ob_no rfl rfl rfl eg (by decide) rfl
              | 25, hoi =>
                simp only [List.getElem?_toArray, List.getElem?_cons_succ, List.getElem?_cons_zero, Option.some.injEq] at hoi
                subst hoi
                refine Reg.ob_plain rfl ?_
                have e36 : a.eval (.tmp 36) = .bool true := need 21 _ 36 rfl rfl (by kernel_rfl)
                have e39 : a.eval (.tmp 39) = undef := need 24 _ 39 rfl rfl (by kernel_rfl)
                refine Reg.wp_val (W' := W) (v := .bool true) (by simp only [execOp, e36, e39, Reg.eval_const, resolve, invoke, builtin, List.map_toArray, List.map_cons, List.map_nil, Option.map_some, Option.map_none]; (first | rfl | go_simp | (go_simp; rfl))) ⟨_, rfl, Bel.refl W, rfl⟩
              | n + 26, hoi => simp at hoi
            · intro a w9 hW hsize hdef got same did
              have ha := Reg.act_of [15, 16, 17, 18, 19, 20, 21, 22, 23, 24, 25, 26, 27, 28, 29, 30, 31, 32, 33, 34, 35, 36, 37, 38, 39, 40] hsize hdef same (by kernel_rfl)
              simp only [List.foldl_cons, List.foldl_nil] at ha
              generalize a.tmps.getD 15 undef = y15 at ha
              generalize a.tmps.getD 16 undef = y16 at ha
              generalize a.tmps.getD 17 undef = y17 at ha
              generalize a.tmps.getD 18 undef = y18 at ha
              generalize a.tmps.getD 19 undef = y19 at ha
              generalize a.tmps.getD 20 undef = y20 at ha
              generalize a.tmps.getD 21 undef = y21 at ha
              generalize a.tmps.getD 22 undef = y22 at ha
              generalize a.tmps.getD 23 undef = y23 at ha
              generalize a.tmps.getD 24 undef = y24 at ha
              generalize a.tmps.getD 25 undef = y25 at ha
              generalize a.tmps.getD 26 undef = y26 at ha
              generalize a.tmps.getD 27 undef = y27 at ha
              generalize a.tmps.getD 28 undef = y28 at ha
              generalize a.tmps.getD 29 undef = y29 at ha
              generalize a.tmps.getD 30 undef = y30 at ha
              generalize a.tmps.getD 31 undef = y31 at ha
              generalize a.tmps.getD 32 undef = y32 at ha
              generalize a.tmps.getD 33 undef = y33 at ha
              generalize a.tmps.getD 34 undef = y34 at ha
              generalize a.tmps.getD 35 undef = y35 at ha
              generalize a.tmps.getD 36 undef = y36 at ha
              generalize a.tmps.getD 37 undef = y37 at ha
              generalize a.tmps.getD 38 undef = y38 at ha
              generalize a.tmps.getD 39 undef = y39 at ha
              have k40 := got 25 _ 40 rfl rfl
              simp only at k40
              rw [k40] at ha
              clear k40
              clear got same hsize hdef did
              subst ha
              simp only [List.setIfInBounds_toArray, List.set_cons_zero, List.set_cons_succ]
              have HB9 := Lib.hid (bthen HBw5.out hW)
              clear hW
              go_wp2
              go_ret
              exact ⟨by have h9 := HRN.out; rw [HPO.out, ← h9]; first | rfl | simp, bthen HB1.out HB9.out⟩
        · have HK7 : Hid ((kind == 7) = false) := Lib.hid (by simpa using hk7)
          have HKL : Hid (decide (kind < 7) = true) := Lib.hid (by have := HKK.out; simp; omega)
          have HRP : Hid (rp kind kind' = !(kind' != MShape.rpartOf kind)) := Lib.hid (by unfold rp; rw [if_neg hk7, if_pos (by have := HKK.out; omega)]; first | rfl | simp [bne])
          clear hk7
          cases hne : (kind' != MShape.rpartOf kind)
          · have HNE := Lib.hid hne
            rw [hne] at HRP
            rw [HRP.out] at HRN
            clear hne
            refine Reg.region_mono (P := Tryd.prog) (Ext := Bel) (R := fun i v W => match i with
                | 0 => v = .pointer (some ⟨gs, 0, none⟩)
                | 1 => v = .int .i64 kind
                | 2 => v = .bool false
                | 3 => v = .bool false
                | 4 => v = undef
                | 5 => v = undef
                | 6 => v = undef
                | 7 => v = .bool false
                | 8 => v = .bool false
                | 9 => v = .pointer (some ⟨gs, 0, none⟩)
                | 10 => v = .int .i64 kind
                | 11 => v = .bool true
                | 12 => v = .bool true
                | 13 => v = .pointer (some ⟨gp, 0, none⟩)
                | 14 => v = .int .i64 kind'
                | 15 => v = .pointer (some ⟨gs, 0, none⟩)
                | 16 => v = .int .i64 kind
                | 17 => v = .int .i64 (MShape.rpartOf kind)
                | 18 => v = .bool false
                | 19 => v = .bool false
                | 20 => v = .bool false
                | 21 => v = .bool false
                | 22 => v = .agg #[.int .i64 kind', .slice u1 u2 u3, .slice u4 u5 u6]
                | 23 => v = .bool q
                | 24 => v = .bool (!q)
                | 25 => v = .bool (!q)
                | _ => True) (fun W => Below w5.heap.size w5 W) rfl (by kernel_rfl) (by kernel_rfl) (Bel.drew w5) (fun W W' h h' => bthen h h') Bel.refl (by intro j v W W' hx h; split at h <;> exact h) ?_ ?_
            · intro i oi hoi a W hW need old
              match i, hoi with
              | 0, hoi =>
                simp only [List.getElem?_toArray, List.getElem?_cons_succ, List.getElem?_cons_zero, Option.some.injEq] at hoi
                subst hoi
                refine Reg.ob_plain rfl ?_
                have e1 : a.eval (.tmp 1) = .pointer (some ⟨gs, 0, none⟩) := old 1 (by kernel_rfl)
                refine Reg.wp_val (W' := W) (v := .pointer (some ⟨gs, 0, none⟩)) (by simp only [execOp, e1, Reg.eval_const, resolve, invoke, builtin, List.map_toArray, List.map_cons, List.map_nil, Option.map_some, Option.map_none]; (first | rfl | go_simp | (go_simp; rfl))) ⟨_, rfl, Bel.refl W, rfl⟩
              | 1, hoi =>
                simp only [List.getElem?_toArray, List.getElem?_cons_succ, List.getElem?_cons_zero, Option.some.injEq] at hoi
                subst hoi
                refine Reg.ob_plain rfl ?_
                have e15 : a.eval (.tmp 15) = .pointer (some ⟨gs, 0, none⟩) := need 0 _ 15 rfl rfl (by kernel_rfl)
                obtain ⟨c0, c1, c2⟩ := Blk.cells3 (Blk.bel HS5.out hW)
                refine Reg.wp_val (W' := W) (v := .int .i64 kind) (by simp only [execOp, e15, Reg.eval_const, resolve, invoke, builtin, List.map_toArray, List.map_cons, List.map_nil, Option.map_some, Option.map_none]; (first | rfl | go_simp | (go_simp; rfl))) ⟨_, rfl, Bel.refl W, rfl⟩
              | 2, hoi =>
                simp only [List.getElem?_toArray, List.getElem?_cons_succ, List.getElem?_cons_zero, Option.some.injEq] at hoi
                subst hoi
                refine Reg.ob_plain rfl ?_
                have e16 : a.eval (.tmp 16) = .int .i64 kind := need 1 _ 16 rfl rfl (by kernel_rfl)
                have n1 := HK7.out
                refine Reg.wp_val (W' := W) (v := .bool false) (by simp only [execOp, e16, Reg.eval_const, resolve, invoke, builtin, List.map_toArray, List.map_cons, List.map_nil, Option.map_some, Option.map_none]; (first | rfl | go_simp | (go_simp; rfl))) ⟨_, rfl, Bel.refl W, rfl⟩
              | 3, hoi =>
                simp only [List.getElem?_toArray, List.getElem?_cons_succ, List.getElem?_cons_zero, Option.some.injEq] at hoi
                subst hoi
                refine Reg.ob_plain rfl ?_
                have e17 : a.eval (.tmp 17) = .bool false := need 2 _ 17 rfl rfl (by kernel_rfl)
                refine Reg.wp_val (W' := W) (v := _) (by simp only [execOp, e17, Reg.eval_const]; rfl) ⟨_, rfl, Bel.refl W, rfl⟩
              | 4, hoi =>
                simp only [List.getElem?_toArray, List.getElem?_cons_succ, List.getElem?_cons_zero, Option.some.injEq] at hoi
                subst hoi
                have eg : a.eval (.tmp 18) = .bool false := need 3 _ 18 rfl rfl (by kernel_rfl)
                exact Reg.ob_no rfl rfl rfl eg (by decide) rfl
              | 5, hoi =>
                simp only [List.getElem?_toArray, List.getElem?_cons_succ, List.getElem?_cons_zero, Option.some.injEq] at hoi
                subst hoi
                have eg : a.eval (.tmp 18) = .bool false := need 3 _ 18 rfl rfl (by kernel_rfl)
                exact Reg.ob_no rfl rfl rfl eg (by decide) rfl
              | 6, hoi =>
                simp only [List.getElem?_toArray, List.getElem?_cons_succ, List.getElem?_cons_zero, Option.some.injEq] at hoi
                subst hoi
                have eg : a.eval (.tmp 18) = .bool false := need 3 _ 18 rfl rfl (by kernel_rfl)
                exact Reg.ob_no rfl rfl rfl eg (by decide) rfl
              | 7, hoi =>
                simp only [List.getElem?_toArray, List.getElem?_cons_succ, List.getElem?_cons_zero, Option.some.injEq] at hoi
                subst hoi
                refine Reg.ob_plain rfl ?_
                have e18 : a.eval (.tmp 18) = .bool false := need 3 _ 18 rfl rfl (by kernel_rfl)
                have e21 : a.eval (.tmp 21) = undef := need 6 _ 21 rfl rfl (by kernel_rfl)
                refine Reg.wp_val (W' := W) (v := .bool false) (by simp only [execOp, e18, e21, Reg.eval_const, resolve, invoke, builtin, List.map_toArray, List.map_cons, List.map_nil, Option.map_some, Option.map_none]; (first | rfl | go_simp | (go_simp; rfl))) ⟨_, rfl, Bel.refl W, rfl⟩
              | 8, hoi =>
                simp only [List.getElem?_toArray, List.getElem?_cons_succ, List.getElem?_cons_zero, Option.some.injEq] at hoi
                subst hoi
                refine Reg.ob_plain rfl ?_
                have e22 : a.eval (.tmp 22) = .bool false := need 7 _ 22 rfl rfl (by kernel_rfl)
                refine Reg.wp_val (W' := W) (v := _) (by simp only [execOp, e22, Reg.eval_const]; rfl) ⟨_, rfl, Bel.refl W, rfl⟩
              | 9, hoi =>
                simp only [List.getElem?_toArray, List.getElem?_cons_succ, List.getElem?_cons_zero, Option.some.injEq] at hoi
                subst hoi
                have eg : a.eval (.tmp 23) = .bool false := need 8 _ 23 rfl rfl (by kernel_rfl)
                refine Reg.ob_yes rfl rfl rfl eg ?_
                have e1 : a.eval (.tmp 1) = .pointer (some ⟨gs, 0, none⟩) := old 1 (by kernel_rfl)
                refine Reg.wp_val (W' := W) (v := .pointer (some ⟨gs, 0, none⟩)) (by simp only [execOp, e1, Reg.eval_const, resolve, invoke, builtin, List.map_toArray, List.map_cons, List.map_nil, Option.map_some, Option.map_none]; (first | rfl | go_simp | (go_simp; rfl))) ⟨_, rfl, Bel.refl W, rfl⟩
              | 10, hoi =>
                simp only [List.getElem?_toArray, List.getElem?_cons_succ, List.getElem?_cons_zero, Option.some.injEq] at hoi
                subst hoi
                have eg : a.eval (.tmp 23) = .bool false := need 8 _ 23 rfl rfl (by kernel_rfl)
                refine Reg.ob_yes rfl rfl rfl eg ?_
                have e24 : a.eval (.tmp 24) = .pointer (some ⟨gs, 0, none⟩) := need 9 _ 24 rfl rfl (by kernel_rfl)
                obtain ⟨c0, c1, c2⟩ := Blk.cells3 (Blk.bel HS5.out hW)
                refine Reg.wp_val (W' := W) (v := .int .i64 kind) (by simp only [execOp, e24, Reg.eval_const, resolve, invoke, builtin, List.map_toArray, List.map_cons, List.map_nil, Option.map_some, Option.map_none]; (first | rfl | go_simp | (go_simp; rfl))) ⟨_, rfl, Bel.refl W, rfl⟩
              | 11, hoi =>
                simp only [List.getElem?_toArray, List.getElem?_cons_succ, List.getElem?_cons_zero, Option.some.injEq] at hoi
                subst hoi
                have eg : a.eval (.tmp 23) = .bool false := need 8 _ 23 rfl rfl (by kernel_rfl)
                refine Reg.ob_yes rfl rfl rfl eg ?_
                have e25 : a.eval (.tmp 25) = .int .i64 kind := need 10 _ 25 rfl rfl (by kernel_rfl)
                have n1 := HKL.out
                refine Reg.wp_val (W' := W) (v := .bool true) (by simp only [execOp, e25, Reg.eval_const, resolve, invoke, builtin, List.map_toArray, List.map_cons, List.map_nil, Option.map_some, Option.map_none]; (first | rfl | go_simp | (go_simp; rfl))) ⟨_, rfl, Bel.refl W, rfl⟩
              | 12, hoi =>
                simp only [List.getElem?_toArray, List.getElem?_cons_succ, List.getElem?_cons_zero, Option.some.injEq] at hoi
                subst hoi
                have eg : a.eval (.tmp 23) = .bool false := need 8 _ 23 rfl rfl (by kernel_rfl)
                refine Reg.ob_yes rfl rfl rfl eg ?_
                have e26 : a.eval (.tmp 26) = .bool true := need 11 _ 26 rfl rfl (by kernel_rfl)
                refine Reg.wp_val (W' := W) (v := _) (by simp only [execOp, e26, Reg.eval_const]; rfl) ⟨_, rfl, Bel.refl W, rfl⟩
              | 13, hoi =>
                simp only [List.getElem?_toArray, List.getElem?_cons_succ, List.getElem?_cons_zero, Option.some.injEq] at hoi
                subst hoi
                have eg : a.eval (.tmp 27) = .bool true := need 12 _ 27 rfl rfl (by kernel_rfl)
                refine Reg.ob_yes rfl rfl rfl eg ?_
                have e4 : a.eval (.tmp 4) = .pointer (some ⟨gp, 0, none⟩) := old 4 (by kernel_rfl)
                refine Reg.wp_val (W' := W) (v := .pointer (some ⟨gp, 0, none⟩)) (by simp only [execOp, e4, Reg.eval_const, resolve, invoke, builtin, List.map_toArray, List.map_cons, List.map_nil, Option.map_some, Option.map_none]; (first | rfl | go_simp | (go_simp; rfl))) ⟨_, rfl, Bel.refl W, rfl⟩
              | 14, hoi =>
                simp only [List.getElem?_toArray, List.getElem?_cons_succ, List.getElem?_cons_zero, Option.some.injEq] at hoi
                subst hoi
                have eg : a.eval (.tmp 27) = .bool true := need 12 _ 27 rfl rfl (by kernel_rfl)
                refine Reg.ob_yes rfl rfl rfl eg ?_
                have e28 : a.eval (.tmp 28) = .pointer (some ⟨gp, 0, none⟩) := need 13 _ 28 rfl rfl (by kernel_rfl)
                obtain ⟨c0, c1, c2⟩ := Blk.cells3 (Blk.bel HP5.out hW)
                refine Reg.wp_val (W' := W) (v := .int .i64 kind') (by simp only [execOp, e28, Reg.eval_const, resolve, invoke, builtin, List.map_toArray, List.map_cons, List.map_nil, Option.map_some, Option.map_none]; (first | rfl | go_simp | (go_simp; rfl))) ⟨_, rfl, Bel.refl W, rfl⟩
              | 15, hoi =>
                simp only [List.getElem?_toArray, List.getElem?_cons_succ, List.getElem?_cons_zero, Option.some.injEq] at hoi
                subst hoi
                have eg : a.eval (.tmp 27) = .bool true := need 12 _ 27 rfl rfl (by kernel_rfl)
                refine Reg.ob_yes rfl rfl rfl eg ?_
                have e1 : a.eval (.tmp 1) = .pointer (some ⟨gs, 0, none⟩) := old 1 (by kernel_rfl)
                refine Reg.wp_val (W' := W) (v := .pointer (some ⟨gs, 0, none⟩)) (by simp only [execOp, e1, Reg.eval_const, resolve, invoke, builtin, List.map_toArray, List.map_cons, List.map_nil, Option.map_some, Option.map_none]; (first | rfl | go_simp | (go_simp; rfl))) ⟨_, rfl, Bel.refl W, rfl⟩
              | 16, hoi =>
                simp only [List.getElem?_toArray, List.getElem?_cons_succ, List.getElem?_cons_zero, Option.some.injEq] at hoi
                subst hoi
                have eg : a.eval (.tmp 27) = .bool true := need 12 _ 27 rfl rfl (by kernel_rfl)
                refine Reg.ob_yes rfl rfl rfl eg ?_
                have e30 : a.eval (.tmp 30) = .pointer (some ⟨gs, 0, none⟩) := need 15 _ 30 rfl rfl (by kernel_rfl)
                obtain ⟨c0, c1, c2⟩ := Blk.cells3 (Blk.bel HS5.out hW)
                refine Reg.wp_val (W' := W) (v := .int .i64 kind) (by simp only [execOp, e30, Reg.eval_const, resolve, invoke, builtin, List.map_toArray, List.map_cons, List.map_nil, Option.map_some, Option.map_none]; (first | rfl | go_simp | (go_simp; rfl))) ⟨_, rfl, Bel.refl W, rfl⟩
              | 17, hoi =>
                simp only [List.getElem?_toArray, List.getElem?_cons_succ, List.getElem?_cons_zero, Option.some.injEq] at hoi
                subst hoi
                have eg : a.eval (.tmp 27) = .bool true := need 12 _ 27 rfl rfl (by kernel_rfl)
                refine Reg.ob_yes rfl rfl rfl eg ?_
                have e31 : a.eval (.tmp 31) = .int .i64 kind := need 16 _ 31 rfl rfl (by kernel_rfl)
                refine Reg.wp_call (f := 27) (args := #[.int .i64 kind]) (by simp only [execOp, e31, Reg.eval_const, resolve, invoke, List.map_toArray, List.map_cons, List.map_nil]; go_simp) ?_
                refine (HPA.out W).mono ?_
                rintro e W' ⟨rfl, rfl⟩; exact ⟨_, rfl, _, rfl, Bel.refl _, rfl⟩
              | 18, hoi =>
                simp only [List.getElem?_toArray, List.getElem?_cons_succ, List.getElem?_cons_zero, Option.some.injEq] at hoi
                subst hoi
                have eg : a.eval (.tmp 27) = .bool true := need 12 _ 27 rfl rfl (by kernel_rfl)
                refine Reg.ob_yes rfl rfl rfl eg ?_
                have e29 : a.eval (.tmp 29) = .int .i64 kind' := need 14 _ 29 rfl rfl (by kernel_rfl)
                have e32 : a.eval (.tmp 32) = .int .i64 (MShape.rpartOf kind) := need 17 _ 32 rfl rfl (by kernel_rfl)
                have n1 := HNE.out
                refine Reg.wp_val (W' := W) (v := .bool false) (by simp only [execOp, e29, e32, Reg.eval_const, resolve, invoke, builtin, List.map_toArray, List.map_cons, List.map_nil, Option.map_some, Option.map_none]; (first | rfl | go_simp | (go_simp; rfl))) ⟨_, rfl, Bel.refl W, rfl⟩
              | 19, hoi =>
                simp only [List.getElem?_toArray, List.getElem?_cons_succ, List.getElem?_cons_zero, Option.some.injEq] at hoi
                subst hoi
                have eg : a.eval (.tmp 23) = .bool false := need 8 _ 23 rfl rfl (by kernel_rfl)
                refine Reg.ob_yes rfl rfl rfl eg ?_
                have e27 : a.eval (.tmp 27) = .bool true := need 12 _ 27 rfl rfl (by kernel_rfl)
                have e33 : a.eval (.tmp 33) = .bool false := need 18 _ 33 rfl rfl (by kernel_rfl)
                refine Reg.wp_val (W' := W) (v := .bool false) (by simp only [execOp, e27, e33, Reg.eval_const, resolve, invoke, builtin, List.map_toArray, List.map_cons, List.map_nil, Option.map_some, Option.map_none]; (first | rfl | go_simp | (go_simp; rfl))) ⟨_, rfl, Bel.refl W, rfl⟩
              | 20, hoi =>
                simp only [List.getElem?_toArray, List.getElem?_cons_succ, List.getElem?_cons_zero, Option.some.injEq] at hoi
                subst hoi
                refine Reg.ob_plain rfl ?_
                have e23 : a.eval (.tmp 23) = .bool false := need 8 _ 23 rfl rfl (by kernel_rfl)
                have e34 : a.eval (.tmp 34) = .bool false := need 19 _ 34 rfl rfl (by kernel_rfl)
                refine Reg.wp_val (W' := W) (v := .bool false) (by simp only [execOp, e23, e34, Reg.eval_const, resolve, invoke, builtin, List.map_toArray, List.map_cons, List.map_nil, Option.map_some, Option.map_none]; (first | rfl | go_simp | (go_simp; rfl))) ⟨_, rfl, Bel.refl W, rfl⟩
              | 21, hoi =>
                simp only [List.getElem?_toArray, List.getElem?_cons_succ, List.getElem?_cons_zero, Option.some.injEq] at hoi
                subst hoi
                refine Reg.ob_plain rfl ?_
                have e35 : a.eval (.tmp 35) = .bool false := need 20 _ 35 rfl rfl (by kernel_rfl)
                refine Reg.wp_val (W' := W) (v := _) (by simp only [execOp, e35, Reg.eval_const]; rfl) ⟨_, rfl, Bel.refl W, rfl⟩
              | 22, hoi =>
                simp only [List.getElem?_toArray, List.getElem?_cons_succ, List.getElem?_cons_zero, Option.some.injEq] at hoi
                subst hoi
                have eg : a.eval (.tmp 36) = .bool false := need 21 _ 36 rfl rfl (by kernel_rfl)
                refine Reg.ob_yes rfl rfl rfl eg ?_
                have e4 : a.eval (.tmp 4) = .pointer (some ⟨gp, 0, none⟩) := old 4 (by kernel_rfl)
                obtain ⟨c0, c1, c2⟩ := Blk.cells3 (Blk.bel HP5.out hW)
                refine Reg.wp_val (W' := W) (v := .agg #[.int .i64 kind', .slice u1 u2 u3, .slice u4 u5 u6]) (by simp only [execOp, e4, Reg.eval_const, resolve, invoke, builtin, List.map_toArray, List.map_cons, List.map_nil, Option.map_some, Option.map_none]; (first | rfl | go_simp | (go_simp; rfl))) ⟨_, rfl, Bel.refl W, rfl⟩
              | 23, hoi =>
                simp only [List.getElem?_toArray, List.getElem?_cons_succ, List.getElem?_cons_zero, Option.some.injEq] at hoi
                subst hoi
                have eg : a.eval (.tmp 36) = .bool false := need 21 _ 36 rfl rfl (by kernel_rfl)
                refine Reg.ob_yes rfl rfl rfl eg ?_
                have e37 : a.eval (.tmp 37) = .agg #[.int .i64 kind', .slice u1 u2 u3, .slice u4 u5 u6] := need 22 _ 37 rfl rfl (by kernel_rfl)
                refine Reg.wp_call (f := 72) (args := #[.agg #[.int .i64 kind', .slice u1 u2 u3, .slice u4 u5 u6]]) (by simp only [execOp, e37, Reg.eval_const, resolve, invoke, List.map_toArray, List.map_cons, List.map_nil]; go_simp) ?_
                refine (HRT.out W hW).mono ?_
                rintro e W' ⟨rfl, hb⟩; exact ⟨_, rfl, _, rfl, hb, rfl⟩
              | 24, hoi =>
                simp only [List.getElem?_toArray, List.getElem?_cons_succ, List.getElem?_cons_zero, Option.some.injEq] at hoi
                subst hoi
                have eg : a.eval (.tmp 36) = .bool false := need 21 _ 36 rfl rfl (by kernel_rfl)
                refine Reg.ob_yes rfl rfl rfl eg ?_
                have e38 : a.eval (.tmp 38) = .bool q := need 23 _ 38 rfl rfl (by kernel_rfl)
                refine Reg.wp_val (W' := W) (v := .bool (!q)) (by simp only [execOp, e38, Reg.eval_const, resolve, invoke, builtin, List.map_toArray, List.map_cons, List.map_nil, Option.map_some, Option.map_none]; (first | rfl | go_simp | (go_simp; rfl))) ⟨_, rfl, Bel.refl W, rfl⟩
              | 25, hoi =>
                simp only [List.getElem?_toArray, List.getElem?_cons_succ, List.getElem?_cons_zero, Option.some.injEq] at hoi
                subst hoi
                refine Reg.ob_plain rfl ?_
                have e36 : a.eval (.tmp 36) = .bool false := need 21 _ 36 rfl rfl (by kernel_rfl)
                have e39 : a.eval (.tmp 39) = .bool (!q) := need 24 _ 39 rfl rfl (by kernel_rfl)
                refine Reg.wp_val (W' := W) (v := .bool (!q)) (by simp only [execOp, e36, e39, Reg.eval_const, resolve, invoke, builtin, List.map_toArray, List.map_cons, List.map_nil, Option.map_some, Option.map_none]; (first | rfl | go_simp | (go_simp; rfl))) ⟨_, rfl, Bel.refl W, rfl⟩
              | n + 26, hoi => simp at hoi
            · intro a w9 hW hsize hdef got same did
              have ha := Reg.act_of [15, 16, 17, 18, 19, 20, 21, 22, 23, 24, 25, 26, 27, 28, 29, 30, 31, 32, 33, 34, 35, 36, 37, 38, 39, 40] hsize hdef same (by kernel_rfl)
              simp only [List.foldl_cons, List.foldl_nil] at ha
              generalize a.tmps.getD 15 undef = y15 at ha
              generalize a.tmps.getD 16 undef = y16 at ha
              generalize a.tmps.getD 17 undef = y17 at ha
              generalize a.tmps.getD 18 undef = y18 at ha
              generalize a.tmps.getD 19 undef = y19 at ha
              generalize a.tmps.getD 20 undef = y20 at ha
              generalize a.tmps.getD 21 undef = y21 at ha
              generalize a.tmps.getD 22 undef = y22 at ha
              generalize a.tmps.getD 23 undef = y23 at ha
              generalize a.tmps.getD 24 undef = y24 at ha
              generalize a.tmps.getD 25 undef = y25 at ha
              generalize a.tmps.getD 26 undef = y26 at ha
              generalize a.tmps.getD 27 undef = y27 at ha
              generalize a.tmps.getD 28 undef = y28 at ha
              generalize a.tmps.getD 29 undef = y29 at ha
              generalize a.tmps.getD 30 undef = y30 at ha
              generalize a.tmps.getD 31 undef = y31 at ha
              generalize a.tmps.getD 32 undef = y32 at ha
              generalize a.tmps.getD 33 undef = y33 at ha
              generalize a.tmps.getD 34 undef = y34 at ha
              generalize a.tmps.getD 35 undef = y35 at ha
              generalize a.tmps.getD 36 undef = y36 at ha
              generalize a.tmps.getD 37 undef = y37 at ha
              generalize a.tmps.getD 38 undef = y38 at ha
              generalize a.tmps.getD 39 undef = y39 at ha
              have k40 := got 25 _ 40 rfl rfl
              simp only at k40
              rw [k40] at ha
              clear k40
              clear got same hsize hdef did
              subst ha
              simp only [List.setIfInBounds_toArray, List.set_cons_zero, List.set_cons_succ]
              have HB9 := Lib.hid (bthen HBw5.out hW)
              clear hW
              cases q
              · go_wp2
                go_ret
                exact ⟨by have h9 := HRN.out; rw [HPO.out, ← h9]; first | rfl | simp, bthen HB1.out HB9.out⟩
              · go_wp2
                go_roundw
                case rel => exact ⟨k + 1, by go_num, by have := HLT.out; omega, HB9, Lib.hid (by have h9 := HRN.out; simpa using h9)⟩
                case measure => (have := HLT.out; simp [intOf] <;> omega)
          · have HNE := Lib.hid hne
            rw [hne] at HRP
            rw [HRP.out] at HRN
            clear hne
            refine Reg.region_mono (P := Tryd.prog) (Ext := Bel) (R := fun i v W => match i with
                | 0 => v = .pointer (some ⟨gs, 0, none⟩)
                | 1 => v = .int .i64 kind
                | 2 => v = .bool false
                | 3 => v = .bool false
                | 4 => v = undef
                | 5 => v = undef
                | 6 => v = undef
                | 7 => v = .bool false
                | 8 => v = .bool false
                | 9 => v = .pointer (some ⟨gs, 0, none⟩)
                | 10 => v = .int .i64 kind
                | 11 => v = .bool true
                | 12 => v = .bool true
                | 13 => v = .pointer (some ⟨gp, 0, none⟩)
                | 14 => v = .int .i64 kind'
                | 15 => v = .pointer (some ⟨gs, 0, none⟩)
                | 16 => v = .int .i64 kind
                | 17 => v = .int .i64 (MShape.rpartOf kind)
                | 18 => v = .bool true
                | 19 => v = .bool true
                | 20 => v = .bool true
                | 21 => v = .bool true
                | 22 => v = undef
                | 23 => v = undef
                | 24 => v = undef
                | 25 => v = .bool true
                | _ => True) (fun W => Below w5.heap.size w5 W) rfl (by kernel_rfl) (by kernel_rfl) (Bel.drew w5) (fun W W' h h' => bthen h h') Bel.refl (by intro j v W W' hx h; split at h <;> exact h) ?_ ?_
            · intro i oi hoi a W hW need old
              match i, hoi with
              | 0, hoi =>
                simp only [List.getElem?_toArray, List.getElem?_cons_succ, List.getElem?_cons_zero, Option.some.injEq] at hoi
                subst hoi
                refine Reg.ob_plain rfl ?_
                have e1 : a.eval (.tmp 1) = .pointer (some ⟨gs, 0, none⟩) := old 1 (by kernel_rfl)
                refine Reg.wp_val (W' := W) (v := .pointer (some ⟨gs, 0, none⟩)) (by simp only [execOp, e1, Reg.eval_const, resolve, invoke, builtin, List.map_toArray, List.map_cons, List.map_nil, Option.map_some, Option.map_none]; (first | rfl | go_simp | (go_simp; rfl))) ⟨_, rfl, Bel.refl W, rfl⟩
              | 1, hoi =>
                simp only [List.getElem?_toArray, List.getElem?_cons_succ, List.getElem?_cons_zero, Option.some.injEq] at hoi
                subst hoi
                refine Reg.ob_plain rfl ?_
                have e15 : a.eval (.tmp 15) = .pointer (some ⟨gs, 0, none⟩) := need 0 _ 15 rfl rfl (by kernel_rfl)
                obtain ⟨c0, c1, c2⟩ := Blk.cells3 (Blk.bel HS5.out hW)
                refine Reg.wp_val (W' := W) (v := .int .i64 kind) (by simp only [execOp, e15, Reg.eval_const, resolve, invoke, builtin, List.map_toArray, List.map_cons, List.map_nil, Option.map_some, Option.map_none]; (first | rfl | go_simp | (go_simp; rfl))) ⟨_, rfl, Bel.refl W, rfl⟩
              | 2, hoi =>
                simp only [List.getElem?_toArray, List.getElem?_cons_succ, List.getElem?_cons_zero, Option.some.injEq] at hoi
                subst hoi
                refine Reg.ob_plain rfl ?_
                have e16 : a.eval (.tmp 16) = .int .i64 kind := need 1 _ 16 rfl rfl (by kernel_rfl)
                have n1 := HK7.out
                refine Reg.wp_val (W' := W) (v := .bool false) (by simp only [execOp, e16, Reg.eval_const, resolve, invoke, builtin, List.map_toArray, List.map_cons, List.map_nil, Option.map_some, Option.map_none]; (first | rfl | go_simp | (go_simp; rfl))) ⟨_, rfl, Bel.refl W, rfl⟩
              | 3, hoi =>
                simp only [List.getElem?_toArray, List.getElem?_cons_succ, List.getElem?_cons_zero, Option.some.injEq] at hoi
                subst hoi
                refine Reg.ob_plain rfl ?_
                have e17 : a.eval (.tmp 17) = .bool false := need 2 _ 17 rfl rfl (by kernel_rfl)
                refine Reg.wp_val (W' := W) (v := _) (by simp only [execOp, e17, Reg.eval_const]; rfl) ⟨_, rfl, Bel.refl W, rfl⟩
              | 4, hoi =>
                simp only [List.getElem?_toArray, List.getElem?_cons_succ, List.getElem?_cons_zero, Option.some.injEq] at hoi
                subst hoi
                have eg : a.eval (.tmp 18) = .bool false := need 3 _ 18 rfl rfl (by kernel_rfl)
                exact Reg.ob_no rfl rfl rfl eg (by decide) rfl
              | 5, hoi =>
                simp only [List.getElem?_toArray, List.getElem?_cons_succ, List.getElem?_cons_zero, Option.some.injEq] at hoi
                subst hoi
                have eg : a.eval (.tmp 18) = .bool false := need 3 _ 18 rfl rfl (by kernel_rfl)
                exact Reg.ob_no rfl rfl rfl eg (by decide) rfl
              | 6, hoi =>
                simp only [List.getElem?_toArray, List.getElem?_cons_succ, List.getElem?_cons_zero, Option.some.injEq] at hoi
                subst hoi
                have eg : a.eval (.tmp 18) = .bool false := need 3 _ 18 rfl rfl (by kernel_rfl)
                exact Reg.ob_no rfl rfl rfl eg (by decide) rfl
              | 7, hoi =>
                simp only [List.getElem?_toArray, List.getElem?_cons_succ, List.getElem?_cons_zero, Option.some.injEq] at hoi
                subst hoi
                refine Reg.ob_plain rfl ?_
                have e18 : a.eval (.tmp 18) = .bool false := need 3 _ 18 rfl rfl (by kernel_rfl)
                have e21 : a.eval (.tmp 21) = undef := need 6 _ 21 rfl rfl (by kernel_rfl)
                refine Reg.wp_val (W' := W) (v := .bool false) (by simp only [execOp, e18, e21, Reg.eval_const, resolve, invoke, builtin, List.map_toArray, List.map_cons, List.map_nil, Option.map_some, Option.map_none]; (first | rfl | go_simp | (go_simp; rfl))) ⟨_, rfl, Bel.refl W, rfl⟩
              | 8, hoi =>
                simp only [List.getElem?_toArray, List.getElem?_cons_succ, List.getElem?_cons_zero, Option.some.injEq] at hoi
                subst hoi
                refine Reg.ob_plain rfl ?_
                have e22 : a.eval (.tmp 22) = .bool false := need 7 _ 22 rfl rfl (by kernel_rfl)
                refine Reg.wp_val (W' := W) (v := _) (by simp only [execOp, e22, Reg.eval_const]; rfl) ⟨_, rfl, Bel.refl W, rfl⟩
              | 9, hoi =>
                simp only [List.getElem?_toArray, List.getElem?_cons_succ, List.getElem?_cons_zero, Option.some.injEq] at hoi
                subst hoi
                have eg : a.eval (.tmp 23) = .bool false := need 8 _ 23 rfl rfl (by kernel_rfl)
                refine Reg.ob_yes rfl rfl rfl eg ?_
                have e1 : a.eval (.tmp 1) = .pointer (some ⟨gs, 0, none⟩) := old 1 (by kernel_rfl)
                refine Reg.wp_val (W' := W) (v := .pointer (some ⟨gs, 0, none⟩)) (by simp only [execOp, e1, Reg.eval_const, resolve, invoke, builtin, List.map_toArray, List.map_cons, List.map_nil, Option.map_some, Option.map_none]; (first | rfl | go_simp | (go_simp; rfl))) ⟨_, rfl, Bel.refl W, rfl⟩
              | 10, hoi =>
                simp only [List.getElem?_toArray, List.getElem?_cons_succ, List.getElem?_cons_zero, Option.some.injEq] at hoi
                subst hoi
                have eg : a.eval (.tmp 23) = .bool false := need 8 _ 23 rfl rfl (by kernel_rfl)
                refine Reg.ob_yes rfl rfl rfl eg ?_
                have e24 : a.eval (.tmp 24) = .pointer (some ⟨gs, 0, none⟩) := need 9 _ 24 rfl rfl (by kernel_rfl)
                obtain ⟨c0, c1, c2⟩ := Blk.cells3 (Blk.bel HS5.out hW)
                refine Reg.wp_val (W' := W) (v := .int .i64 kind) (by simp only [execOp, e24, Reg.eval_const, resolve, invoke, builtin, List.map_toArray, List.map_cons, List.map_nil, Option.map_some, Option.map_none]; (first | rfl | go_simp | (go_simp; rfl))) ⟨_, rfl, Bel.refl W, rfl⟩
              | 11, hoi =>
                simp only [List.getElem?_toArray, List.getElem?_cons_succ, List.getElem?_cons_zero, Option.some.injEq] at hoi
                subst hoi
                have eg : a.eval (.tmp 23) = .bool false := need 8 _ 23 rfl rfl (by kernel_rfl)
                refine Reg.ob_yes rfl rfl rfl eg ?_
                have e25 : a.eval (.tmp 25) = .int .i64 kind := need 10 _ 25 rfl rfl (by kernel_rfl)
                have n1 := HKL.out
                refine Reg.wp_val (W' := W) (v := .bool true) (by simp only [execOp, e25, Reg.eval_const, resolve, invoke, builtin, List.map_toArray, List.map_cons, List.map_nil, Option.map_some, Option.map_none]; (first | rfl | go_simp | (go_simp; rfl))) ⟨_, rfl, Bel.refl W, rfl⟩
              | 12, hoi =>
                simp only [List.getElem?_toArray, List.getElem?_cons_succ, List.getElem?_cons_zero, Option.some.injEq] at hoi
                subst hoi
                have eg : a.eval (.tmp 23) = .bool false := need 8 _ 23 rfl rfl (by kernel_rfl)
                refine Reg.ob_yes rfl rfl rfl eg ?_
                have e26 : a.eval (.tmp 26) = .bool true := need 11 _ 26 rfl rfl (by kernel_rfl)
                refine Reg.wp_val (W' := W) (v := _) (by simp only [execOp, e26, Reg.eval_const]; rfl) ⟨_, rfl, Bel.refl W, rfl⟩
              | 13, hoi =>
                simp only [List.getElem?_toArray, List.getElem?_cons_succ, List.getElem?_cons_zero, Option.some.injEq] at hoi
                subst hoi
                have eg : a.eval (.tmp 27) = .bool true := need 12 _ 27 rfl rfl (by kernel_rfl)
                refine Reg.ob_yes rfl rfl rfl eg ?_
                have e4 : a.eval (.tmp 4) = .pointer (some ⟨gp, 0, none⟩) := old 4 (by kernel_rfl)
                refine Reg.wp_val (W' := W) (v := .pointer (some ⟨gp, 0, none⟩)) (by simp only [execOp, e4, Reg.eval_const, resolve, invoke, builtin, List.map_toArray, List.map_cons, List.map_nil, Option.map_some, Option.map_none]; (first | rfl | go_simp | (go_simp; rfl))) ⟨_, rfl, Bel.refl W, rfl⟩
              | 14, hoi =>
                simp only [List.getElem?_toArray, List.getElem?_cons_succ, List.getElem?_cons_zero, Option.some.injEq] at hoi
                subst hoi
                have eg : a.eval (.tmp 27) = .bool true := need 12 _ 27 rfl rfl (by kernel_rfl)
                refine Reg.ob_yes rfl rfl rfl eg ?_
                have e28 : a.eval (.tmp 28) = .pointer (some ⟨gp, 0, none⟩) := need 13 _ 28 rfl rfl (by kernel_rfl)
                obtain ⟨c0, c1, c2⟩ := Blk.cells3 (Blk.bel HP5.out hW)
                refine Reg.wp_val (W' := W) (v := .int .i64 kind') (by simp only [execOp, e28, Reg.eval_const, resolve, invoke, builtin, List.map_toArray, List.map_cons, List.map_nil, Option.map_some, Option.map_none]; (first | rfl | go_simp | (go_simp; rfl))) ⟨_, rfl, Bel.refl W, rfl⟩
              | 15, hoi =>
                simp only [List.getElem?_toArray, List.getElem?_cons_succ, List.getElem?_cons_zero, Option.some.injEq] at hoi
                subst hoi
                have eg : a.eval (.tmp 27) = .bool true := need 12 _ 27 rfl rfl (by kernel_rfl)
                refine Reg.ob_yes rfl rfl rfl eg ?_
                have e1 : a.eval (.tmp 1) = .pointer (some ⟨gs, 0, none⟩) := old 1 (by kernel_rfl)
                refine Reg.wp_val (W' := W) (v := .pointer (some ⟨gs, 0, none⟩)) (by simp only [execOp, e1, Reg.eval_const, resolve, invoke, builtin, List.map_toArray, List.map_cons, List.map_nil, Option.map_some, Option.map_none]; (first | rfl | go_simp | (go_simp; rfl))) ⟨_, rfl, Bel.refl W, rfl⟩
              | 16, hoi =>
                simp only [List.getElem?_toArray, List.getElem?_cons_succ, List.getElem?_cons_zero, Option.some.injEq] at hoi
                subst hoi
                have eg : a.eval (.tmp 27) = .bool true := need 12 _ 27 rfl rfl (by kernel_rfl)
                refine Reg.ob_yes rfl rfl rfl eg ?_
                have e30 : a.eval (.tmp 30) = .pointer (some ⟨gs, 0, none⟩) := need 15 _ 30 rfl rfl (by kernel_rfl)
                obtain ⟨c0, c1, c2⟩ := Blk.cells3 (Blk.bel HS5.out hW)
                refine Reg.wp_val (W' := W) (v := .int .i64 kind) (by simp only [execOp, e30, Reg.eval_const, resolve, invoke, builtin, List.map_toArray, List.map_cons, List.map_nil, Option.map_some, Option.map_none]; (first | rfl | go_simp | (go_simp; rfl))) ⟨_, rfl, Bel.refl W, rfl⟩
              | 17, hoi =>
                simp only [List.getElem?_toArray, List.getElem?_cons_succ, List.getElem?_cons_zero, Option.some.injEq] at hoi
                subst hoi
                have eg : a.eval (.tmp 27) = .bool true := need 12 _ 27 rfl rfl (by kernel_rfl)
                refine Reg.ob_yes rfl rfl rfl eg ?_
                have e31 : a.eval (.tmp 31) = .int .i64 kind := need 16 _ 31 rfl rfl (by kernel_rfl)
                refine Reg.wp_call (f := 27) (args := #[.int .i64 kind]) (by simp only [execOp, e31, Reg.eval_const, resolve, invoke, List.map_toArray, List.map_cons, List.map_nil]; go_simp) ?_
                refine (HPA.out W).mono ?_
                rintro e W' ⟨rfl, rfl⟩; exact ⟨_, rfl, _, rfl, Bel.refl _, rfl⟩
              | 18, hoi =>
                simp only [List.getElem?_toArray, List.getElem?_cons_succ, List.getElem?_cons_zero, Option.some.injEq] at hoi
                subst hoi
                have eg : a.eval (.tmp 27) = .bool true := need 12 _ 27 rfl rfl (by kernel_rfl)
                refine Reg.ob_yes rfl rfl rfl eg ?_
                have e29 : a.eval (.tmp 29) = .int .i64 kind' := need 14 _ 29 rfl rfl (by kernel_rfl)
                have e32 : a.eval (.tmp 32) = .int .i64 (MShape.rpartOf kind) := need 17 _ 32 rfl rfl (by kernel_rfl)
                have n1 := HNE.out
                refine Reg.wp_val (W' := W) (v := .bool true) (by simp only [execOp, e29, e32, Reg.eval_const, resolve, invoke, builtin, List.map_toArray, List.map_cons, List.map_nil, Option.map_some, Option.map_none]; (first | rfl | go_simp | (go_simp; rfl))) ⟨_, rfl, Bel.refl W, rfl⟩
              | 19, hoi =>
                simp only [List.getElem?_toArray, List.getElem?_cons_succ, List.getElem?_cons_zero, Option.some.injEq] at hoi
                subst hoi
                have eg : a.eval (.tmp 23) = .bool false := need 8 _ 23 rfl rfl (by kernel_rfl)
                refine Reg.ob_yes rfl rfl rfl eg ?_
                have e27 : a.eval (.tmp 27) = .bool true := need 12 _ 27 rfl rfl (by kernel_rfl)
                have e33 : a.eval (.tmp 33) = .bool true := need 18 _ 33 rfl rfl (by kernel_rfl)
                refine Reg.wp_val (W' := W) (v := .bool true) (by simp only [execOp, e27, e33, Reg.eval_const, resolve, invoke, builtin, List.map_toArray, List.map_cons, List.map_nil, Option.map_some, Option.map_none]; (first | rfl | go_simp | (go_simp; rfl))) ⟨_, rfl, Bel.refl W, rfl⟩
              | 20, hoi =>
                simp only [List.getElem?_toArray, List.getElem?_cons_succ, List.getElem?_cons_zero, Option.some.injEq] at hoi
                subst hoi
                refine Reg.ob_plain rfl ?_
                have e23 : a.eval (.tmp 23) = .bool false := need 8 _ 23 rfl rfl (by kernel_rfl)
                have e34 : a.eval (.tmp 34) = .bool true := need 19 _ 34 rfl rfl (by kernel_rfl)
                refine Reg.wp_val (W' := W) (v := .bool true) (by simp only [execOp, e23, e34, Reg.eval_const, resolve, invoke, builtin, List.map_toArray, List.map_cons, List.map_nil, Option.map_some, Option.map_none]; (first | rfl | go_simp | (go_simp; rfl))) ⟨_, rfl, Bel.refl W, rfl⟩
              | 21, hoi =>
                simp only [List.getElem?_toArray, List.getElem?_cons_succ, List.getElem?_cons_zero, Option.some.injEq] at hoi
                subst hoi
                refine Reg.ob_plain rfl ?_
                have e35 : a.eval (.tmp 35) = .bool true := need 20 _ 35 rfl rfl (by kernel_rfl)
                refine Reg.wp_val (W' := W) (v := _) (by simp only [execOp, e35, Reg.eval_const]; rfl) ⟨_, rfl, Bel.refl W, rfl⟩
              | 22, hoi =>
                simp only [List.getElem?_toArray, List.getElem?_cons_succ, List.getElem?_cons_zero, Option.some.injEq] at hoi
                subst hoi
                have eg : a.eval (.tmp 36) = .bool true := need 21 _ 36 rfl rfl (by kernel_rfl)
                exact Reg.ob_no rfl rfl rfl eg (by decide) rfl
              | 23, hoi =>
                simp only [List.getElem?_toArray, List.getElem?_cons_succ, List.getElem?_cons_zero, Option.some.injEq] at hoi
                subst hoi
                have eg : a.eval (.tmp 36) = .bool true := need 21 _ 36 rfl rfl (by kernel_rfl)
                exact Reg.ob_no rfl rfl rfl eg (by decide) rfl
              | 24, hoi =>
                simp only [List.getElem?_toArray, List.getElem?_cons_succ, List.getElem?_cons_zero, Option.some.injEq] at hoi
                subst hoi
                have eg : a.eval (.tmp 36) = .bool true := need 21 _ 36 rfl rfl (by kernel_rfl)
                exact Reg.ob_no rfl rfl rfl eg (by decide) rfl
              | 25, hoi =>
                simp only [List.getElem?_toArray, List.getElem?_cons_succ, List.getElem?_cons_zero, Option.some.injEq] at hoi
                subst hoi
                refine Reg.ob_plain rfl ?_
                have e36 : a.eval (.tmp 36) = .bool true := need 21 _ 36 rfl rfl (by kernel_rfl)
                have e39 : a.eval (.tmp 39) = undef := need 24 _ 39 rfl rfl (by kernel_rfl)
                refine Reg.wp_val (W' := W) (v := .bool true) (by simp only [execOp, e36, e39, Reg.eval_const, resolve, invoke, builtin, List.map_toArray, List.map_cons, List.map_nil, Option.map_some, Option.map_none]; (first | rfl | go_simp | (go_simp; rfl))) ⟨_, rfl, Bel.refl W, rfl⟩
              | n + 26, hoi => simp at hoi
            · intro a w9 hW hsize hdef got same did
              have ha := Reg.act_of [15, 16, 17, 18, 19, 20, 21, 22, 23, 24, 25, 26, 27, 28, 29, 30, 31, 32, 33, 34, 35, 36, 37, 38, 39, 40] hsize hdef same (by kernel_rfl)
              simp only [List.foldl_cons, List.foldl_nil] at ha
              generalize a.tmps.getD 15 undef = y15 at ha
              generalize a.tmps.getD 16 undef = y16 at ha
              generalize a.tmps.getD 17 undef = y17 at ha
              generalize a.tmps.getD 18 undef = y18 at ha
              generalize a.tmps.getD 19 undef = y19 at ha
              generalize a.tmps.getD 20 undef = y20 at ha
              generalize a.tmps.getD 21 undef = y21 at ha
              generalize a.tmps.getD 22 undef = y22 at ha
              generalize a.tmps.getD 23 undef = y23 at ha
              generalize a.tmps.getD 24 undef = y24 at ha
              generalize a.tmps.getD 25 undef = y25 at ha
              generalize a.tmps.getD 26 undef = y26 at ha
              generalize a.tmps.getD 27 undef = y27 at ha
              generalize a.tmps.getD 28 undef = y28 at ha
              generalize a.tmps.getD 29 undef = y29 at ha
              generalize a.tmps.getD 30 undef = y30 at ha
              generalize a.tmps.getD 31 undef = y31 at ha
              generalize a.tmps.getD 32 undef = y32 at ha
              generalize a.tmps.getD 33 undef = y33 at ha
              generalize a.tmps.getD 34 undef = y34 at ha
              generalize a.tmps.getD 35 undef = y35 at ha
              generalize a.tmps.getD 36 undef = y36 at ha
              generalize a.tmps.getD 37 undef = y37 at ha
              generalize a.tmps.getD 38 undef = y38 at ha
              generalize a.tmps.getD 39 undef = y39 at ha
              have k40 := got 25 _ 40 rfl rfl
              simp only at k40
              rw [k40] at ha
              clear k40
              clear got same hsize hdef did
              subst ha
              simp only [List.setIfInBounds_toArray, List.set_cons_zero, List.set_cons_succ]
              have HB9 := Lib.hid (bthen HBw5.out hW)
              clear hW
              go_wp2
              go_ret
              exact ⟨by have h9 := HRN.out; rw [HPO.out, ← h9]; first | rfl | simp, bthen HB1.out HB9.out⟩
      · have : k = cs.length := by omega
        subst this
        have hre : b3 = true := by have := HRk.out; rw [HCS.out, List.drop_length, rrights_nil] at this; exact this.symm
        subst hre
        clear hlt hk HRk HR3
        go_wp2
        go_ret
        exact ⟨by rw [HPO.out]; first | rfl | simp, bthen HB1.out HBk.out⟩
end Go.Proofs.YtfknhpgelleenaaDoor.K
namespace Go.Proofs.YtfknhpgelleenaaDoor.K
open Go Go.RowKit Go.Proofs.YtfknhpgelleenaaDoorW.PrintWords Go.Proofs.YtfknhpgelleenaaDoorW.PrintLast Go.Proofs.YtfknhpgelleenaaDoorW.PrintMore
set_option linter.unusedVariables false
set_option linter.unusedSimpArgs false
open Go.Proofs.YtfknhpgelleenaaDoor.MShape (Sh flats)
set_option maxHeartbeats 4000000 in
set_option maxRecDepth 100000 in
theorem rcheck_calls (D : Nat) (s : Sh) (c : Value × Value × Value) (w : World) (B : Nat) (hB : B ≤ w.heap.size) (hs : ShB B w D c s) :
    Calls Tryd.prog 42 #[.agg #[c.1, c.2.1, c.2.2]] w fun e w' => e = .returned (.int .i64 (MShape.check s)) ∧ Bel w w' := by
  have HO := Lib.hid (fun W h1 h2 => rOf_calls D s c W B h1 h2)
  have HRI := Lib.hid (fun W h1 h2 => rright_calls D s c W B h1 h2)
  have HRA := Lib.hid (fun W h1 h2 h3 => rAll_calls D s c W B h1 h2 h3)
  have HS := Lib.hid hs
  have hkk := ShB.kind hs
  obtain ⟨kd, e1, e2, e3, e4, e5, e6, rfl⟩ := hs.forms
  dsimp only at HO HRI HRA HS hkk ⊢
  have hkd : kd = s.kind := by injection hkk
  have HKD := Lib.hid hkd
  have HBB := Lib.hid hB
  clear hs hB hkk hkd
  obtain ⟨⟨P, Q, E⟩, hcn⟩ : ∃ x, MShape.count s = x := ⟨_, rfl⟩
  have HCN := Lib.hid hcn
  rw [hcn] at HO
  have hck : (if 16 < E then 10 else if 4000 < P ∨ 1000 < Q then 12 else if (MShape.isKind s.kind && MShape.right s) = false then 9 else if s.flat.any MShape.nowhere = true then 11 else 0) = MShape.check s := by unfold MShape.check; rw [hcn]
  obtain ⟨ck, hck0⟩ : ∃ k, MShape.check s = k := ⟨_, rfl⟩
  rw [hck0] at hck ⊢
  clear hck0
  have HCK := Lib.hid hck
  clear hcn hck
  have S := Blk.new w #[.int .i64 kd, .slice e1 e2 e3, .slice e4 e5 e6] 25
  have HB : Hid (Bel w (w.alloc (.cells #[.int .i64 kd, .slice e1 e2 e3, .slice e4 e5 e6] 25))) := Lib.hid ((Bel.refl w).alloc (Nat.le_refl _) _)
  go_enter Tryd.func42, Tryd.ntmps42
  go_upto_region 1 with (fail)
  obtain ⟨W1, hW⟩ : ∃ X, w.alloc (.cells #[.int .i64 kd, .slice e1 e2 e3, .slice e4 e5 e6] 25) = X := ⟨_, rfl⟩
  rw [hW] at S HB ⊢
  obtain ⟨gs, hg⟩ : ∃ X, w.heap.size = X := ⟨_, rfl⟩
  rw [hg] at S ⊢
  clear hW hg
  obtain ⟨s0, s1, s2⟩ := Blk.cells3 S
  have HSB := Lib.hid S
  clear S
  have HC1 : Hid (Calls Tryd.prog 71 #[.agg #[.int .i64 kd, .slice e1 e2 e3, .slice e4 e5 e6]] W1 fun e w' => e = .returned (.agg #[.int .i64 P, .int .i64 Q, .int .i64 E]) ∧ Bel W1 w' ∧ cnOk ⟨P, Q, E⟩) := Lib.hid (HO.out W1 (by have := HB.out.size; have := HBB.out; omega) (HS.out.keep (KeepB.bel HB.out)))
  go_upto_region 2 with (go_at_call 71; refine (HC1.out).mono ?_; rintro e W2 ⟨rfl, hb2, -⟩)
  have HB2 := Lib.hid (bthen HB.out hb2)
  have HSB2 := Lib.hid (Blk.bel HSB.out hb2)
  clear s0 s1 s2 hb2 HC1
  have C := Blk.new W2 #[.int .i64 P, .int .i64 Q, .int .i64 E] 101
  have HB3 := Lib.hid (HB2.out.alloc HB2.out.size (.cells #[.int .i64 P, .int .i64 Q, .int .i64 E] 101))
  have S3 := Blk.alloc HSB2.out (.cells #[.int .i64 P, .int .i64 Q, .int .i64 E] 101)
  obtain ⟨W3, hW⟩ : ∃ X, W2.alloc (.cells #[.int .i64 P, .int .i64 Q, .int .i64 E] 101) = X := ⟨_, rfl⟩
  rw [hW] at C HB3 S3 ⊢
  obtain ⟨gc, hg⟩ : ∃ X, W2.heap.size = X := ⟨_, rfl⟩
  rw [hg] at C ⊢
  clear hW hg
  obtain ⟨c0, c1, c2⟩ := Blk.cells3 C
  obtain ⟨s0, s1, s2⟩ := Blk.cells3 S3
  have HS3 := Lib.hid S3
  clear C S3
  by_cases h1 : 16 < E
  · have hck := HCK.out
    rw [if_pos h1] at hck
    subst hck
    clear HCK
    go_wp2
    go_ret
    exact ⟨by first | rfl | simp, HB3.out⟩
  have hck := HCK.out
  rw [if_neg h1] at hck
  have HCK := Lib.hid hck
  clear hck
  by_cases h2 : 4000 < P
  · have hck := HCK.out
    rw [if_pos (.inl h2)] at hck
    subst hck
    clear HCK
    go_wp2
    go_ret
    exact ⟨by first | rfl | simp, HB3.out⟩
  by_cases h3 : 1000 < Q
  · have hck := HCK.out
    rw [if_pos (.inr h3)] at hck
    subst hck
    clear HCK
    go_wp2
    go_ret
    exact ⟨by first | rfl | simp, HB3.out⟩
  have hck := HCK.out
  rw [if_neg (fun h => h.elim h2 h3)] at hck
  have HCK := Lib.hid hck
  have HLI : Hid (s.flat.length ≤ 4000) := Lib.hid (by
    have hl : MShape.light s = true := by
      unfold MShape.light
      rw [HCN.out]
      simp only [Bool.and_eq_true, decide_eq_true_eq]
      omega
    exact (MShape.light_is hl).1)
  have hre := MShape.rcheck_eq s
  have HC4 := Lib.hid (HRI.out W3 (by have := HB3.out.size; have := HBB.out; omega) (HS.out.keep (KeepB.bel HB3.out)))
  obtain ⟨q, hq⟩ : ∃ q, MShape.rright s = q := ⟨_, rfl⟩
  rw [hq] at hre HC4
  rw [← HKD.out] at hre
  have HRE := Lib.hid hre
  clear hck hre hq
  by_cases h4 : kd < 1
  · have hck := HCK.out
    have h9 := HRE.out
    rw [decide_eq_true h4, Bool.true_or] at h9
    rw [← HKD.out, if_pos (by cases h : (MShape.isKind kd && MShape.right s) with | false => rfl | true => rw [h] at h9; cases h9)] at hck
    subst hck
    clear HCK
    clear h9
    go_wp2
    go_ret
    exact ⟨by first | rfl | simp, HB3.out⟩
  have h9 := HRE.out
  rw [decide_eq_false h4, Bool.false_or] at h9
  have HRE := Lib.hid h9
  clear h9
  cases q
  · have hck := HCK.out
    have h9 := HRE.out
    rw [← HKD.out, if_pos (by cases h : (MShape.isKind kd && MShape.right s) with | false => rfl | true => rw [h] at h9; cases h9)] at hck
    subst hck
    clear HCK
    clear h9
    go_wp2_with (go_at_call 72; refine (HC4.out).mono ?_; rintro e W4 ⟨rfl, hb4⟩)
    go_ret
    exact ⟨by first | rfl | simp, bthen HB3.out hb4⟩
  have hck := HCK.out
  have h9 := HRE.out
  rw [← HKD.out, if_neg (by intro e; rw [e] at h9; cases h9)] at hck
  have HCK := Lib.hid hck
  clear hck h9
  obtain ⟨fl, hfl⟩ : ∃ l, s.flat = l := ⟨_, rfl⟩
  rw [hfl] at HLI HRA HCK
  clear hfl
  have HR : Hid ((if fl.any MShape.nowhere = true then (11 : Int) else 0) = ck) := HCK
  clear HCK
  go_upto_region 8 with (go_at_call 72; refine (HC4.out).mono ?_; rintro e W4 ⟨rfl, hb4⟩)
  have HB4 := Lib.hid (bthen HB3.out hb4)
  have S4 := Blk.bel HS3.out hb4
  clear s0 s1 s2 c0 c1 c2 hb4
  obtain ⟨s0, s1, s2⟩ := Blk.cells3 S4
  have HC5 := Lib.hid (HRA.out W4 (by have := HB4.out.size; have := HBB.out; omega) (HS.out.keep (KeepB.bel HB4.out)) (by have := HLI.out; omega))
  clear S4
  go_wp2_with (go_at_call 29; refine (HC5.out).mono ?_; rintro e W5 ⟨v5, rfl, hr5, hb5⟩; obtain ⟨A5, c5, hv5, hc5, hC5⟩ := hr5.reads; subst hv5)
  have HB5 := Lib.hid (bthen HB4.out hb5)
  obtain ⟨a5, k5, f5, hcc, hmm, hx5⟩ := hC5.pts hc5
  injection f5 with f1 f2 f3
  subst f1 f3
  have HX := Lib.hid hx5
  have HMM := Lib.hid hmm
  clear hr5 hb5 hC5 hc5 hcc hmm hx5 f2 s0 s1 s2 h1 h2 h3 h4
  go_loopw [33] (fun i wr => ∃ (k : Nat), i = .int .i64 k ∧ k ≤ fl.length ∧ Hid (Bel W5 wr) ∧ Hid ((if (fl.drop k).any MShape.nowhere = true then 11 else 0) = ck)) (fun i _ => fl.length - (intOf i).toNat)
  case atStart => exact ⟨0, rfl, by omega, Lib.hid (Below.refl _ _), Lib.hid (by rw [List.drop_zero]; exact HR.out)⟩
  case round =>
    obtain ⟨k, rfl, hk, HBk, HRk⟩ := hrel
    by_cases hlt : k < fl.length
    · obtain ⟨b, off, rfl, hbb, x0, y0⟩ := HX.out k hlt
      have x0 := kc HBk.out x0
      have y0 := kc HBk.out y0
      have hrk := HRk.out
      rw [List.drop_eq_getElem_cons hlt, List.any_cons] at hrk
      obtain ⟨p, hp⟩ : ∃ p, fl[k] = p := ⟨_, rfl⟩
      rw [hp] at x0 y0 hrk
      obtain ⟨px, py⟩ := p
      dsimp only at x0 y0
      have hrk : (if ((px == -9223372036854775808 || py == -9223372036854775808) || (fl.drop (k + 1)).any MShape.nowhere) = true then 11 else 0) = ck := hrk
      have HRN := Lib.hid hrk
      have HLT := Lib.hid hlt
      have hmx : fl.length ≤ 9223372036854775807 := HMM.out
      clear hp hrk HRk
      go_upto_region 11 with (fail)
      have P5 := Blk.new wr #[.int .i64 px, .int .i64 py] 41
      have HB9 : Hid (Bel wr (wr.alloc (.cells #[.int .i64 px, .int .i64 py] 41))) := Lib.hid ((Bel.refl wr).alloc (Nat.le_refl _) _)
      obtain ⟨w9, hW⟩ : ∃ X, wr.alloc (.cells #[.int .i64 px, .int .i64 py] 41) = X := ⟨_, rfl⟩
      rw [hW] at P5 HB9 ⊢
      obtain ⟨gp, hg⟩ : ∃ X, wr.heap.size = X := ⟨_, rfl⟩
      rw [hg] at P5 ⊢
      clear hW hg x0 y0
      have p0 : w9.cell? ⟨gp, 0, none⟩ = some (.int .i64 px) := Blk.cell P5 0 rfl
      have p1 : w9.cell? ⟨gp, 1, none⟩ = some (.int .i64 py) := Blk.cell P5 1 rfl
      clear P5
      cases b1 : (px == -9223372036854775808) <;> cases b2 : (py == -9223372036854775808)
      all_goals
        rw [b1, b2] at HRN
        have Hb1 := Lib.hid b1
        have Hb2 := Lib.hid b2
        go_wp2
      · go_roundw
        case rel => exact ⟨k + 1, by go_num, by have := HLT.out; omega, Lib.hid (bthen HBk.out HB9.out), Lib.hid (by have h9 := HRN.out; rw [Bool.false_or, Bool.false_or] at h9; exact h9)⟩
        case measure => (have := HLT.out; simp [intOf] <;> omega)
      all_goals
        go_ret
        exact ⟨by have h9 := HRN.out; simp at h9; rw [← h9]; rfl, bthen HB5.out (bthen HBk.out HB9.out)⟩
    · have : k = fl.length := by omega
      subst this
      have hre : ck = 0 := by have := HRk.out; rw [List.drop_length] at this; simpa using this.symm
      subst hre
      clear hlt hk HRk HR
      go_wp2
      go_ret
      exact ⟨by first | rfl | simp, bthen HB5.out HBk.out⟩
end Go.Proofs.YtfknhpgelleenaaDoor.K
end
