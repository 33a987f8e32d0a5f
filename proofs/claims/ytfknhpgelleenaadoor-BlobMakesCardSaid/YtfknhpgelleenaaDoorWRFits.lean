/- The reference's word on a shape without its parts. -/
import Derived.Test.YtfknhpgelleenaaDoorKB
import Derived.Handy
import Derived.Test.YtfknhpgelleenaaDoorWShp
import Derived.Test.YtfknhpgelleenaaDoorMShape3
import Derived.Test.YtfknhpgelleenaaDoorWRight
namespace Go.Proofs.YtfknhpgelleenaaDoor.K
open Go Go.RowKit Go.Proofs.YtfknhpgelleenaaDoorW.PrintWords Go.Proofs.YtfknhpgelleenaaDoorW.PrintLast Go.Proofs.YtfknhpgelleenaaDoorW.PrintMore
set_option linter.unusedVariables false
set_option linter.unusedSimpArgs false
open Go.Proofs.YtfknhpgelleenaaDoor.MShape (Sh ends rfits)
set_option maxHeartbeats 2000000 in
set_option maxRecDepth 100000 in
theorem rfits_calls (k : Int) (pts : List (Int × Int)) (a a' : Option Addr) (c n' m' : Nat) (w : World) (B : Nat) (hp : PtsB B w (.slice a pts.length c) pts) (r : Bool) (hr : rfits k pts n' = r) :
    Calls Tryd.prog 91 #[.agg #[.int .i64 k, .slice a pts.length c, .slice a' n' m']] w fun e w' => e = .returned (.bool r) ∧ Bel w w' := by
  subst hr
  obtain ⟨a0, c0, e0, _, hm, hx⟩ := hp
  injection e0 with e1 e2 e3
  subst e1
  clear e2 e3
  obtain ⟨bz, hbz⟩ : ∃ b, ((n' : Int) == 0) = b := ⟨_, rfl⟩
  have hbd : decide (n' = 0) = bz := by rw [← hbz, Bool.eq_iff_iff]; simp
  have S := Blk.new w #[.int .i64 k, .slice a pts.length c, .slice a' n' m'] 25
  have HB : Hid (Below w.heap.size w (w.alloc (.cells #[.int .i64 k, .slice a pts.length c, .slice a' n' m'] 25))) := Lib.hid ((Below.refl _ w).alloc (Nat.le_refl _) _)
  by_cases h0 : k = 0
  · subst h0
    by_cases h4 : 4 ≤ pts.length
    · obtain ⟨b, off, rfl, _, x0, y0⟩ := hx 0 (by omega)
      obtain ⟨b', off', e', _, x1, y1⟩ := hx (pts.length - 1) (by omega)
      obtain ⟨rfl, rfl⟩ : b = b' ∧ off = off' := by simpa using e'
      have hv : rfits 0 pts n' = ((pts[0].1 == pts[pts.length - 1].1 && pts[0].2 == pts[pts.length - 1].2) && bz) := by
        unfold rfits ends
        rw [if_pos rfl, decide_eq_true h4, Bool.true_and, hbd]
        simp [List.getD_eq_getElem?_getD, List.getElem?_eq_getElem (show 0 < pts.length by omega), List.getElem?_eq_getElem (show pts.length - 1 < pts.length by omega)]
      rw [hv]
      obtain ⟨p, hp⟩ : ∃ p, pts[0] = p := ⟨_, rfl⟩
      obtain ⟨q, hq⟩ : ∃ p, pts[pts.length - 1] = p := ⟨_, rfl⟩
      rw [hp] at x0 y0 ⊢
      rw [hq] at x1 y1 ⊢
      have q1 := eqPt p.1 p.2 q.1 q.2
      obtain ⟨n, hn⟩ : ∃ n, pts.length = n := ⟨_, rfl⟩
      rw [hn] at h4 hm x1 y1 S HB ⊢
      clear hv hp hq hn e' hx hbd
      have h4' : decide ((4 : Int) ≤ (n : Int)) = true := by simp; omega
      have hwr : IntKind.i64.wrap ((n : Int) - 1) = (n : Int) - 1 := IntWalk.i64_in _ (by omega)
      have hb1 : (0 : Int) ≤ (n : Int) - 1 := by omega
      have hb2 : (n : Int) - 1 < (n : Int) := by omega
      have hb3 : ((n : Int) - 1).toNat = n - 1 := by omega
      have hb4 : (0 : Int) < (n : Int) := by omega
      clear h4
      go_enter Tryd.func91, Tryd.ntmps91
      go_upto_region 1 with (fail)
      obtain ⟨W, hW⟩ : ∃ W, w.alloc (.cells #[.int .i64 0, .slice (some ⟨b, off, none⟩) n c, .slice a' n' m'] 25) = W := ⟨_, rfl⟩
      rw [hW] at S HB ⊢
      clear hW
      obtain ⟨s0, s1, s2⟩ := Blk.cells3 S
      have x0 := kc ((Bel.refl W)) (HB.out.cell (p := ⟨b, off + 0 * 2, none⟩) (World.block_lt_of_cell? _ _ x0) |>.trans x0)
      have y0 := HB.out.cell (p := ⟨b, off + 0 * 2 + 1, none⟩) (World.block_lt_of_cell? _ _ y0) |>.trans y0
      have x1 := HB.out.cell (p := ⟨b, off + (n - 1) * 2, none⟩) (World.block_lt_of_cell? _ _ x1) |>.trans x1
      have y1 := HB.out.cell (p := ⟨b, off + (n - 1) * 2 + 1, none⟩) (World.block_lt_of_cell? _ _ y1) |>.trans y1
      rw [Nat.zero_mul, Nat.add_zero] at x0 y0
      go_upto_region 4 with (fail)
      cases hpq : (p.1 == q.1 && p.2 == q.2)
      all_goals
        rw [hpq] at q1
        have HPQ := Lib.hid hpq
        clear hpq
        go_quiet (fail)
        go_wp2
        go_ret
        exact ⟨by rw [HPQ.out]; first | rfl | simp, below_drewN HB.out _⟩
    · have hv : rfits 0 pts n' = false := by unfold rfits; rw [if_pos rfl, decide_eq_false h4]; rfl
      rw [hv]
      have h4' : decide ((4 : Int) ≤ (pts.length : Int)) = false := by simp; omega
      clear hv h4 hx hbd
      go_enter Tryd.func91, Tryd.ntmps91
      go_upto_region 1 with (fail)
      obtain ⟨W, hW⟩ : ∃ W, w.alloc (.cells #[.int .i64 0, .slice a pts.length c, .slice a' n' m'] 25) = W := ⟨_, rfl⟩
      rw [hW] at S HB ⊢
      clear hW
      obtain ⟨s0, s1, s2⟩ := Blk.cells3 S
      go_upto_region 4 with (fail)
      go_quiet (fail)
      go_wp2
      go_ret
      exact ⟨by first | rfl | simp, below_drewN HB.out _⟩
  have hk0 : (k == 0) = false := by simpa using h0
  obtain ⟨v, hv⟩ : ∃ b, rfits k pts n' = b := ⟨_, rfl⟩
  rw [hv]
  unfold rfits at hv
  rw [if_neg h0, hbd] at hv
  have HV := Lib.hid hv
  clear hv hx hbd h0
  by_cases h1 : k = 1
  · subst h1
    have hv := HV.out
    rw [if_pos rfl] at hv
    have HV := Lib.hid hv
    clear hv
    cases hd : decide ((pts.length : Int) ≤ 1)
    all_goals
      have HD := Lib.hid hd
      go_enter Tryd.func91, Tryd.ntmps91
      go_upto_region 1 with (fail)
      obtain ⟨W, hW⟩ : ∃ W, w.alloc (.cells #[.int .i64 1, .slice a pts.length c, .slice a' n' m'] 25) = W := ⟨_, rfl⟩
      rw [hW] at S HB ⊢
      clear hW
      obtain ⟨s0, s1, s2⟩ := Blk.cells3 S
      go_wp2
      go_ret
      exact ⟨by have h8 := HD.out; have h9 := HV.out; rw [show decide (pts.length ≤ 1) = decide ((pts.length : Int) ≤ 1) by rw [Bool.eq_iff_iff]; simp; omega, h8] at h9; rw [← h9]; first | rfl | simp, HB.out⟩
  have hk1 : (k == 1) = false := by simpa using h1
  have hv := HV.out
  rw [if_neg h1] at hv
  have HV := Lib.hid hv
  clear hv h1
  by_cases h2 : k = 2
  · subst h2
    have hv := HV.out
    rw [if_pos rfl] at hv
    have HV := Lib.hid hv
    clear hv
    cases hd : ((pts.length : Int) != 1)
    all_goals
      have HD := Lib.hid hd
      go_enter Tryd.func91, Tryd.ntmps91
      go_upto_region 1 with (fail)
      obtain ⟨W, hW⟩ : ∃ W, w.alloc (.cells #[.int .i64 2, .slice a pts.length c, .slice a' n' m'] 25) = W := ⟨_, rfl⟩
      rw [hW] at S HB ⊢
      clear hW
      obtain ⟨s0, s1, s2⟩ := Blk.cells3 S
      go_wp2
      go_ret
      exact ⟨by have h8 := HD.out; have h9 := HV.out; rw [show (!decide (pts.length = 1)) = ((pts.length : Int) != 1) by rw [Bool.eq_iff_iff]; simp; omega, h8] at h9; rw [← h9]; first | rfl | simp, HB.out⟩
  have hk2 : (k == 2) = false := by simpa using h2
  have hv := HV.out
  rw [if_neg h2] at hv
  have HV := Lib.hid hv
  clear hv h2
  cases h3 : decide ((3 : Int) ≤ k) <;> cases h7 : decide (k ≤ 7)
  all_goals
    have HD3 := Lib.hid h3
    have HD7 := Lib.hid h7
    go_enter Tryd.func91, Tryd.ntmps91
    go_upto_region 1 with (fail)
    obtain ⟨W, hW⟩ : ∃ W, w.alloc (.cells #[.int .i64 k, .slice a pts.length c, .slice a' n' m'] 25) = W := ⟨_, rfl⟩
    rw [hW] at S HB ⊢
    clear hW
    obtain ⟨s0, s1, s2⟩ := Blk.cells3 S
    go_wp2
    go_ret
    exact ⟨by have h8 := HD3.out; have h7 := HD7.out; have h9 := HV.out; rw [h8, h7, show decide (pts.length = 0) = ((pts.length : Int) == 0) by rw [Bool.eq_iff_iff]; simp] at h9; rw [← h9]; first | rfl | simp, HB.out⟩

end Go.Proofs.YtfknhpgelleenaaDoor.K
