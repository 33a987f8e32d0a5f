/- Rows of points compared: the reference's Same, slices.Equal. -/
import Derived.Test.YtfknhpgelleenaaDoorKB
import Derived.Handy
import Derived.Test.YtfknhpgelleenaaDoorKM
import Derived.Test.YtfknhpgelleenaaDoorWShp
import Derived.Test.YtfknhpgelleenaaDoorWRight
namespace Go.Proofs.YtfknhpgelleenaaDoor.K
open Go Go.RowKit Go.Proofs.YtfknhpgelleenaaDoorW.PrintWords Go.Proofs.YtfknhpgelleenaaDoorW.PrintLast Go.Proofs.YtfknhpgelleenaaDoorW.PrintMore
set_option linter.unusedVariables false
set_option linter.unusedSimpArgs false
open Go.Proofs.YtfknhpgelleenaaDoor.MShape (Sh eqPts)
set_option maxRecDepth 100000 in
theorem nePt (x y x' y' : Int) (w : World) : (binOp .neq 41 (.agg #[.int .i64 x, .int .i64 y]) (.agg #[.int .i64 x', .int .i64 y'])).run Tryd.prog w = .ok (.bool (!(x == x' && y == y'))) w := by
  unfold binOp
  simp only [Sem.run_bind, Op.equal, Op.maxDepth, eqPt_in 9998 x y x' y', Result.andThen_ok, Sem.run_pure]
set_option maxHeartbeats 2000000 in
set_option maxRecDepth 100000 in
theorem same_calls (v1 v2 : Value) (xs ys : List (Int × Int)) (w : World) (B : Nat) (h1 : PtsB B w v1 xs) (h2 : PtsB B w v2 ys) (r : Bool) (hr : eqPts xs ys = r) :
    Calls Tryd.prog 32 #[v1, v2] w fun e w' => e = .returned (.bool r) ∧ Bel w w' := by
  obtain ⟨a1, c1, rfl, hc1, hm1, hx1⟩ := h1
  obtain ⟨a2, c2, rfl, hc2, hm2, hx2⟩ := h2
  clear hc1 hc2
  by_cases hl : xs.length = ys.length
  case neg =>
    have hv : ((xs.length : Int) != ys.length) = true := by simp; omega
    have hr2 : r = false := hr.symm.trans (MShape.eqPts_len hl)
    subst hr2
    clear hr hx1 hx2 hm1 hm2 hl
    go_enter Tryd.func32, Tryd.ntmps32
    go_wp2
    go_ret
    exact ⟨by first | rfl | simp, Below.refl _ _⟩
  rw [← hl]
  have HL := Lib.hid hl
  have HX1 := Lib.hid hx1
  have HX2 := Lib.hid hx2
  have HR := Lib.hid hr
  have HNE := Lib.hid nePt
  clear hl hx1 hx2 hr hm2
  have hv : ((xs.length : Int) != xs.length) = false := by simp
  go_enter Tryd.func32, Tryd.ntmps32
  go_wp2
  clear hv
  go_loopw [13] (fun i wr => ∃ (k : Nat), i = .int .i64 k ∧ k ≤ xs.length ∧ Hid (Below w.heap.size w wr) ∧ Hid (eqPts (xs.drop k) (ys.drop k) = r)) (fun i _ => xs.length - (intOf i).toNat)
  case atStart => exact ⟨0, rfl, by omega, Lib.hid (Below.refl _ _), Lib.hid (by rw [List.drop_zero, List.drop_zero]; exact HR.out)⟩
  case round =>
    obtain ⟨k, rfl, hk, HBk, HRk⟩ := hrel
    by_cases hlt : k < xs.length
    · have hlt2 : k < ys.length := by have := HL.out; omega
      obtain ⟨b, off, rfl, _, x0, y0⟩ := HX1.out k hlt
      obtain ⟨b', off', rfl, _, x1, y1⟩ := HX2.out k hlt2
      have hrk := HRk.out
      rw [List.drop_eq_getElem_cons hlt, List.drop_eq_getElem_cons hlt2] at hrk
      obtain ⟨p, hp⟩ : ∃ p, xs[k] = p := ⟨_, rfl⟩
      obtain ⟨q, hq⟩ : ∃ p, ys[k] = p := ⟨_, rfl⟩
      rw [hp] at x0 y0 hrk
      rw [hq] at x1 y1 hrk
      have hrk : ((p.1 == q.1 && p.2 == q.2) && eqPts (xs.drop (k + 1)) (ys.drop (k + 1))) = r := hrk
      have x0 := HBk.out.cell (p := ⟨b, off + k * 2, none⟩) (World.block_lt_of_cell? _ _ x0) |>.trans x0
      have y0 := HBk.out.cell (p := ⟨b, off + k * 2 + 1, none⟩) (World.block_lt_of_cell? _ _ y0) |>.trans y0
      have x1 := HBk.out.cell (p := ⟨b', off' + k * 2, none⟩) (World.block_lt_of_cell? _ _ x1) |>.trans x1
      have y1 := HBk.out.cell (p := ⟨b', off' + k * 2 + 1, none⟩) (World.block_lt_of_cell? _ _ y1) |>.trans y1
      have HRN := Lib.hid hrk
      have q1 := HNE.out p.1 p.2 q.1 q.2
      clear hp hq hrk hlt2 HRk
      go_upto_region 6 with (fail)
      cases hpq : (p.1 == q.1 && p.2 == q.2)
      · rw [hpq] at HRN q1
        have HPQ := Lib.hid hpq
        clear hpq
        go_quiet (fail)
        go_wp2
        go_ret
        have hrf := HRN.out
        rw [Bool.false_and] at hrf
        exact ⟨by rw [← hrf]; rfl, below_drewN HBk.out _⟩
      · rw [hpq] at HRN q1
        have HPQ := Lib.hid hpq
        clear hpq
        go_quiet (fail)
        go_wp2
        go_roundw
        case rel => exact ⟨k + 1, by go_num, by omega, Lib.hid (below_drewN HBk.out _), Lib.hid (by have := HRN.out; rwa [Bool.true_and] at this)⟩
        case measure => (simp [intOf] <;> omega)
    · have : k = xs.length := by omega
      subst this
      have hre : r = true := by have := HRk.out; rw [List.drop_length, HL.out, List.drop_length] at this; exact this.symm
      subst hre
      clear hlt hk HRk HR
      go_wp2
      go_ret
      exact ⟨by first | rfl | simp, HBk.out⟩
set_option maxHeartbeats 2000000 in
set_option maxRecDepth 100000 in
theorem slEq_calls (v1 v2 : Value) (xs ys : List (Int × Int)) (w : World) (B : Nat) (h1 : PtsB B w v1 xs) (h2 : PtsB B w v2 ys) (r : Bool) (hr : eqPts xs ys = r) :
    Calls Tryd.prog 58 #[v1, v2] w fun e w' => e = .returned (.bool r) ∧ Bel w w' := by
  obtain ⟨a1, c1, rfl, hc1, hm1, hx1⟩ := h1
  obtain ⟨a2, c2, rfl, hc2, hm2, hx2⟩ := h2
  clear hc1 hc2
  by_cases hl : xs.length = ys.length
  case neg =>
    have hv : ((xs.length : Int) != ys.length) = true := by simp; omega
    have hr2 : r = false := hr.symm.trans (MShape.eqPts_len hl)
    subst hr2
    clear hr hx1 hx2 hm1 hm2 hl
    go_enter Tryd.func58, Tryd.ntmps58
    go_wp2
    go_ret
    exact ⟨by first | rfl | simp, Below.refl _ _⟩
  rw [← hl]
  have HL := Lib.hid hl
  have HX1 := Lib.hid hx1
  have HX2 := Lib.hid hx2
  have HR := Lib.hid hr
  have HNE := Lib.hid nePt
  clear hl hx1 hx2 hr hm2
  have hv : ((xs.length : Int) != xs.length) = false := by simp
  go_enter Tryd.func58, Tryd.ntmps58
  go_wp2
  clear hv
  go_loopw [13] (fun i wr => ∃ (k : Nat), i = .int .i64 k ∧ k ≤ xs.length ∧ Hid (Below w.heap.size w wr) ∧ Hid (eqPts (xs.drop k) (ys.drop k) = r)) (fun i _ => xs.length - (intOf i).toNat)
  case atStart => exact ⟨0, rfl, by omega, Lib.hid (Below.refl _ _), Lib.hid (by rw [List.drop_zero, List.drop_zero]; exact HR.out)⟩
  case round =>
    obtain ⟨k, rfl, hk, HBk, HRk⟩ := hrel
    by_cases hlt : k < xs.length
    · have hlt2 : k < ys.length := by have := HL.out; omega
      obtain ⟨b, off, rfl, _, x0, y0⟩ := HX1.out k hlt
      obtain ⟨b', off', rfl, _, x1, y1⟩ := HX2.out k hlt2
      have hrk := HRk.out
      rw [List.drop_eq_getElem_cons hlt, List.drop_eq_getElem_cons hlt2] at hrk
      obtain ⟨p, hp⟩ : ∃ p, xs[k] = p := ⟨_, rfl⟩
      obtain ⟨q, hq⟩ : ∃ p, ys[k] = p := ⟨_, rfl⟩
      rw [hp] at x0 y0 hrk
      rw [hq] at x1 y1 hrk
      have hrk : ((p.1 == q.1 && p.2 == q.2) && eqPts (xs.drop (k + 1)) (ys.drop (k + 1))) = r := hrk
      have x0 := HBk.out.cell (p := ⟨b, off + k * 2, none⟩) (World.block_lt_of_cell? _ _ x0) |>.trans x0
      have y0 := HBk.out.cell (p := ⟨b, off + k * 2 + 1, none⟩) (World.block_lt_of_cell? _ _ y0) |>.trans y0
      have x1 := HBk.out.cell (p := ⟨b', off' + k * 2, none⟩) (World.block_lt_of_cell? _ _ x1) |>.trans x1
      have y1 := HBk.out.cell (p := ⟨b', off' + k * 2 + 1, none⟩) (World.block_lt_of_cell? _ _ y1) |>.trans y1
      have HRN := Lib.hid hrk
      have q1 := HNE.out p.1 p.2 q.1 q.2
      clear hp hq hrk hlt2 HRk
      go_upto_region 6 with (fail)
      cases hpq : (p.1 == q.1 && p.2 == q.2)
      · rw [hpq] at HRN q1
        have HPQ := Lib.hid hpq
        clear hpq
        go_quiet (fail)
        go_wp2
        go_ret
        have hrf := HRN.out
        rw [Bool.false_and] at hrf
        exact ⟨by rw [← hrf]; rfl, below_drewN HBk.out _⟩
      · rw [hpq] at HRN q1
        have HPQ := Lib.hid hpq
        clear hpq
        go_quiet (fail)
        go_wp2
        go_roundw
        case rel => exact ⟨k + 1, by go_num, by omega, Lib.hid (below_drewN HBk.out _), Lib.hid (by have := HRN.out; rwa [Bool.true_and] at this)⟩
        case measure => (simp [intOf] <;> omega)
    · have : k = xs.length := by omega
      subst this
      have hre : r = true := by have := HRk.out; rw [List.drop_length, HL.out, List.drop_length] at this; exact this.symm
      subst hre
      clear hlt hk HRk HR
      go_wp2
      go_ret
      exact ⟨by first | rfl | simp, HBk.out⟩

end Go.Proofs.YtfknhpgelleenaaDoor.K
