/- Entries compared; has a box points. -/
import Derived.Test.YtljcingmjemohaaKB
import Derived.Handy
import Derived.Test.YtljcingmjemohaaWNd1
namespace Go.Proofs.Ytljcingmjemohaa.K
open Go Go.RowKit Go.Proofs.YtljcingmjemohaaW.PrintWords Go.Proofs.YtljcingmjemohaaW.PrintLast Go.Proofs.YtljcingmjemohaaW.PrintMore
set_option linter.unusedVariables false
set_option linter.unusedSimpArgs false
open Go.Proofs.Ytljcingmjemohaa.MBox (Bx noneB)
open Go.Proofs.Ytljcingmjemohaa.MChoose (En En0)
open Go.Proofs.Ytljcingmjemohaa.MNd
open Go.Proofs.Ytljcingmjemohaa.MBox (has good)
theorem bdrewN {B : Nat} {a w : World} (h : Below B a w) (n : Nat) : Below B a (w.drewN n) := ⟨h.os, h.tape, h.output, h.size, h.block⟩
set_option maxHeartbeats 4000000 in
set_option maxRecDepth 100000 in
theorem solid_calls (b : Bx) (w : World) : Calls Try.prog 43 #[.agg #[.bool b.no, .int .i64 b.lx, .int .i64 b.ly, .int .i64 b.hx, .int .i64 b.hy]] w fun e w' => e = .returned (.bool (MBox.has b)) ∧ Bel w w' := by
  obtain ⟨no, lx, ly, hx, hy⟩ := b
  have HG := fun w => good_calls ⟨no, lx, ly, hx, hy⟩ w
  rw [← MBox.has_good]
  dsimp only at HG ⊢
  generalize MBox.good ⟨no, lx, ly, hx, hy⟩ = gd at HG ⊢
  have HG := Lib.hid HG
  cases no
  · have A := Blk.new w #[.bool false, .int .i64 lx, .int .i64 ly, .int .i64 hx, .int .i64 hy] 38
    have HB : Hid (Below w.heap.size w (w.alloc (.cells #[.bool false, .int .i64 lx, .int .i64 ly, .int .i64 hx, .int .i64 hy] 38))) := Lib.hid ((Bel.refl w).alloc (Nat.le_refl _) _)
    go_enter Try.func43, Try.ntmps43
    go_upto_region 1 with (fail)
    obtain ⟨W, hW⟩ : ∃ W, (w.alloc (.cells #[.bool false, .int .i64 lx, .int .i64 ly, .int .i64 hx, .int .i64 hy] 38)) = W := ⟨_, rfl⟩
    rw [hW] at A HB ⊢
    clear hW
    obtain ⟨a0, a1, a2, a3, a4⟩ := Blk.cells5 A
    go_wp2_with (go_at_call 88; refine (HG.out _).mono ?_; rintro e w' ⟨rfl, hb⟩; clear a0 a1 a2 a3 a4; have A := Blk.bel A hb; have HB := Lib.hid (bthen HB.out hb); clear hb; obtain ⟨a0, a1, a2, a3, a4⟩ := Blk.cells5 A)
    go_ret
    exact ⟨by simp, HB.out⟩
  · have A := Blk.new w #[.bool true, .int .i64 lx, .int .i64 ly, .int .i64 hx, .int .i64 hy] 38
    have HB : Hid (Below w.heap.size w (w.alloc (.cells #[.bool true, .int .i64 lx, .int .i64 ly, .int .i64 hx, .int .i64 hy] 38))) := Lib.hid ((Bel.refl w).alloc (Nat.le_refl _) _)
    go_enter Try.func43, Try.ntmps43
    go_upto_region 1 with (fail)
    obtain ⟨W, hW⟩ : ∃ W, (w.alloc (.cells #[.bool true, .int .i64 lx, .int .i64 ly, .int .i64 hx, .int .i64 hy] 38)) = W := ⟨_, rfl⟩
    rw [hW] at A HB ⊢
    clear hW
    obtain ⟨a0, a1, a2, a3, a4⟩ := Blk.cells5 A
    go_wp2_with (go_at_call 88; refine (HG.out _).mono ?_; rintro e w' ⟨rfl, hb⟩; clear a0 a1 a2 a3 a4; have A := Blk.bel A hb; have HB := Lib.hid (bthen HB.out hb); clear hb; obtain ⟨a0, a1, a2, a3, a4⟩ := Blk.cells5 A)
    go_ret
    exact ⟨by simp, HB.out⟩
set_option maxRecDepth 100000 in
theorem neE (a b : En) (w : World) : (binOp .neq 57 (.agg #[.int .i64 a.id, .bool a.bx.no, .int .i64 a.bx.lx, .int .i64 a.bx.ly, .int .i64 a.bx.hx, .int .i64 a.bx.hy]) (.agg #[.int .i64 b.id, .bool b.bx.no, .int .i64 b.bx.lx, .int .i64 b.bx.ly, .int .i64 b.bx.hx, .int .i64 b.bx.hy])).run Try.prog w = .ok (.bool (!(eqE a b))) w := by
  unfold binOp
  simp only [Sem.run_bind, Op.equal, Op.maxDepth]
  rw [run_equalIn_struct w (9999) 57 _ _ (by kernel_rfl) (by kernel_rfl)]
  simp only [Program.fieldsOf, Try.underlying57]
  have hq := eqB_in 9996 a.bx b.bx
  by_cases h0 : a.id = b.id
  · cases hs : MBox.same a.bx b.bx <;> rw [hs] at hq <;> simp [Op.eqFields, go_sem, Try.underlying3, eqE, h0, hq, hs]
  · simp [Op.eqFields, go_sem, Try.underlying3, eqE, h0]
set_option maxRecDepth 100000 in
theorem neR (a b : En) (w : World) : (binOp .neq 85 (.agg #[.int .i64 a.id, .bool a.bx.no, .int .i64 a.bx.lx, .int .i64 a.bx.ly, .int .i64 a.bx.hx, .int .i64 a.bx.hy]) (.agg #[.int .i64 b.id, .bool b.bx.no, .int .i64 b.bx.lx, .int .i64 b.bx.ly, .int .i64 b.bx.hx, .int .i64 b.bx.hy])).run Try.prog w = .ok (.bool (!(eqE a b))) w := by
  unfold binOp
  simp only [Sem.run_bind, Op.equal, Op.maxDepth]
  rw [run_equalIn_struct w (9999) 85 _ _ (by kernel_rfl) (by kernel_rfl)]
  simp only [Program.fieldsOf, Try.underlying85]
  have hq := eqB_in 9996 a.bx b.bx
  by_cases h0 : a.id = b.id
  · cases hs : MBox.same a.bx b.bx <;> rw [hs] at hq <;> simp [Op.eqFields, go_sem, Try.underlying3, eqE, h0, hq, hs]
  · simp [Op.eqFields, go_sem, Try.underlying3, eqE, h0]
set_option maxHeartbeats 4000000 in
set_option maxRecDepth 100000 in
theorem slEq_calls (A1 A2 : Option Addr) (c1 c2 : Nat) (xs ys : List En) (w : World) (h1 : CE w A1 xs) (h2 : CE w A2 ys) (r : Bool) (hr : sameL xs ys = r) :
    Calls Try.prog 53 #[.slice A1 xs.length c1, .slice A2 ys.length c2] w fun e w' => e = .returned (.bool r) ∧ Bel w w' := by
  have hm1 := h1.len
  by_cases hl : xs.length = ys.length
  case neg =>
    have hv : ((xs.length : Int) != ys.length) = true := by simp; omega
    have hr2 : r = false := hr.symm.trans (sameL_len hl)
    subst hr2
    clear hr h1 h2 hm1 hl
    go_enter Try.func53, Try.ntmps53
    go_wp2
    go_ret
    exact ⟨by first | rfl | simp, Below.refl _ _⟩
  rw [← hl]
  have HL := Lib.hid hl
  have HX1 := Lib.hid h1
  have HX2 := Lib.hid h2
  have HR := Lib.hid hr
  have HNE := Lib.hid neE
  clear hl h1 h2 hr
  have hv : ((xs.length : Int) != xs.length) = false := by simp
  go_enter Try.func53, Try.ntmps53
  go_wp2
  clear hv
  go_loopw [13] (fun i wr => ∃ (k : Nat), i = .int .i64 k ∧ k ≤ xs.length ∧ Hid (Below w.heap.size w wr) ∧ Hid (sameL (xs.drop k) (ys.drop k) = r)) (fun i _ => xs.length - (intOf i).toNat)
  case atStart => exact ⟨0, rfl, by omega, Lib.hid (Below.refl _ _), Lib.hid (by rw [List.drop_zero, List.drop_zero]; exact HR.out)⟩
  case round =>
    obtain ⟨k, rfl, hk, HBk, HRk⟩ := hrel
    by_cases hlt : k < xs.length
    · have hlt2 : k < ys.length := by have := HL.out; omega
      obtain ⟨b, off, e8, _, x0, x1, x2, x3, x4, x5⟩ := en_at (HX1.out.below HBk.out) k hlt
      obtain ⟨b', off', e9, _, y0, y1, y2, y3, y4, y5⟩ := en_at (HX2.out.below HBk.out) k hlt2
      subst e8 e9
      have hrk := HRk.out
      rw [List.drop_eq_getElem_cons hlt, List.drop_eq_getElem_cons hlt2] at hrk
      obtain ⟨p, hp⟩ : ∃ p, xs[k] = p := ⟨_, rfl⟩
      obtain ⟨q, hq⟩ : ∃ p, ys[k] = p := ⟨_, rfl⟩
      rw [hp] at x0 x1 x2 x3 x4 x5 hrk
      rw [hq] at y0 y1 y2 y3 y4 y5 hrk
      have hrk : (eqE p q && sameL (xs.drop (k + 1)) (ys.drop (k + 1))) = r := hrk
      have HRN := Lib.hid hrk
      have q1 := HNE.out p q
      clear hp hq hrk hlt2 HRk
      go_upto_region 6 with (fail)
      cases hpq : eqE p q
      · rw [hpq] at HRN q1
        clear hpq
        go_quiet (fail)
        go_wp2
        go_ret
        have hrf := HRN.out
        rw [Bool.false_and] at hrf
        exact ⟨by rw [← hrf]; rfl, bdrewN HBk.out _⟩
      · rw [hpq] at HRN q1
        clear hpq
        go_quiet (fail)
        go_wp2
        go_roundw
        case rel => exact ⟨k + 1, by go_num, by omega, Lib.hid (bdrewN HBk.out _), Lib.hid (by have := HRN.out; rwa [Bool.true_and] at this)⟩
        case measure => (simp [intOf] <;> omega)
    · have : k = xs.length := by omega
      subst this
      have hre : r = true := by have := HRk.out; rw [List.drop_length, HL.out, List.drop_length] at this; exact this.symm
      subst hre
      clear hlt hk HRk HR
      go_wp2
      go_ret
      exact ⟨by first | rfl | simp, HBk.out⟩
set_option maxHeartbeats 4000000 in
set_option maxRecDepth 100000 in
theorem sameList_calls (A1 A2 : Option Addr) (c1 c2 : Nat) (xs ys : List En) (w : World) (h1 : CE w A1 xs) (h2 : CE w A2 ys) (r : Bool) (hr : sameL xs ys = r) :
    Calls Try.prog 42 #[.slice A1 xs.length c1, .slice A2 ys.length c2] w fun e w' => e = .returned (.bool r) ∧ Bel w w' := by
  have hm1 := h1.len
  by_cases hl : xs.length = ys.length
  case neg =>
    have hv : ((xs.length : Int) != ys.length) = true := by simp; omega
    have hr2 : r = false := hr.symm.trans (sameL_len hl)
    subst hr2
    clear hr h1 h2 hm1 hl
    go_enter Try.func42, Try.ntmps42
    go_wp2
    go_ret
    exact ⟨by first | rfl | simp, Below.refl _ _⟩
  rw [← hl]
  have HL := Lib.hid hl
  have HX1 := Lib.hid h1
  have HX2 := Lib.hid h2
  have HR := Lib.hid hr
  have HNE := Lib.hid neR
  clear hl h1 h2 hr
  have hv : ((xs.length : Int) != xs.length) = false := by simp
  go_enter Try.func42, Try.ntmps42
  go_wp2
  clear hv
  go_loopw [13] (fun i wr => ∃ (k : Nat), i = .int .i64 k ∧ k ≤ xs.length ∧ Hid (Below w.heap.size w wr) ∧ Hid (sameL (xs.drop k) (ys.drop k) = r)) (fun i _ => xs.length - (intOf i).toNat)
  case atStart => exact ⟨0, rfl, by omega, Lib.hid (Below.refl _ _), Lib.hid (by rw [List.drop_zero, List.drop_zero]; exact HR.out)⟩
  case round =>
    obtain ⟨k, rfl, hk, HBk, HRk⟩ := hrel
    by_cases hlt : k < xs.length
    · have hlt2 : k < ys.length := by have := HL.out; omega
      obtain ⟨b, off, e8, _, x0, x1, x2, x3, x4, x5⟩ := en_at (HX1.out.below HBk.out) k hlt
      obtain ⟨b', off', e9, _, y0, y1, y2, y3, y4, y5⟩ := en_at (HX2.out.below HBk.out) k hlt2
      subst e8 e9
      have hrk := HRk.out
      rw [List.drop_eq_getElem_cons hlt, List.drop_eq_getElem_cons hlt2] at hrk
      obtain ⟨p, hp⟩ : ∃ p, xs[k] = p := ⟨_, rfl⟩
      obtain ⟨q, hq⟩ : ∃ p, ys[k] = p := ⟨_, rfl⟩
      rw [hp] at x0 x1 x2 x3 x4 x5 hrk
      rw [hq] at y0 y1 y2 y3 y4 y5 hrk
      have hrk : (eqE p q && sameL (xs.drop (k + 1)) (ys.drop (k + 1))) = r := hrk
      have HRN := Lib.hid hrk
      have q1 := HNE.out p q
      clear hp hq hrk hlt2 HRk
      go_upto_region 6 with (fail)
      cases hpq : eqE p q
      · rw [hpq] at HRN q1
        clear hpq
        go_quiet (fail)
        go_wp2
        go_ret
        have hrf := HRN.out
        rw [Bool.false_and] at hrf
        exact ⟨by rw [← hrf]; rfl, bdrewN HBk.out _⟩
      · rw [hpq] at HRN q1
        clear hpq
        go_quiet (fail)
        go_wp2
        go_roundw
        case rel => exact ⟨k + 1, by go_num, by omega, Lib.hid (bdrewN HBk.out _), Lib.hid (by have := HRN.out; rwa [Bool.true_and] at this)⟩
        case measure => (simp [intOf] <;> omega)
    · have : k = xs.length := by omega
      subst this
      have hre : r = true := by have := HRk.out; rw [List.drop_length, HL.out, List.drop_length] at this; exact this.symm
      subst hre
      clear hlt hk HRk HR
      go_wp2
      go_ret
      exact ⟨by first | rfl | simp, HBk.out⟩

end Go.Proofs.Ytljcingmjemohaa.K
