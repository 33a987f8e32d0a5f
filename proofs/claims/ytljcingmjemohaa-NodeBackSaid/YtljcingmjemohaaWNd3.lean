/- Where an Id stands. -/
import Derived.Test.YtljcingmjemohaaKB
import Derived.Handy
import Derived.Test.YtljcingmjemohaaWNd2
namespace Go.Proofs.Ytljcingmjemohaa.K
open Go Go.RowKit Go.Proofs.YtljcingmjemohaaW.PrintWords Go.Proofs.YtljcingmjemohaaW.PrintLast Go.Proofs.YtljcingmjemohaaW.PrintMore
set_option linter.unusedVariables false
set_option linter.unusedSimpArgs false
open Go.Proofs.Ytljcingmjemohaa.MBox (Bx noneB)
open Go.Proofs.Ytljcingmjemohaa.MChoose (En En0)
open Go.Proofs.Ytljcingmjemohaa.MNd
open Go.Proofs.Ytljcingmjemohaa.MBox (has good)
set_option maxHeartbeats 4000000 in
set_option maxRecDepth 100000 in
theorem find1_calls (x : En) (id : Int) (g : Nat) (w : World) (hg : w.cell? ⟨g, 0, none⟩ = some (.int .i64 id)) :
    Calls Try.prog 52 #[.agg #[.int .i64 x.id, .bool x.bx.no, .int .i64 x.bx.lx, .int .i64 x.bx.ly, .int .i64 x.bx.hx, .int .i64 x.bx.hy], .pointer (some ⟨g, 0, none⟩)] w fun e w' => e = .returned (.bool (x.id == id)) ∧ Bel w w' := by
  have P := Blk.new w #[.int .i64 x.id, .bool x.bx.no, .int .i64 x.bx.lx, .int .i64 x.bx.ly, .int .i64 x.bx.hx, .int .i64 x.bx.hy] 57
  have hg' : (w.alloc (.cells #[.int .i64 x.id, .bool x.bx.no, .int .i64 x.bx.lx, .int .i64 x.bx.ly, .int .i64 x.bx.hx, .int .i64 x.bx.hy] 57)).cell? ⟨g, 0, none⟩ = some (.int .i64 id) := kc ((Bel.refl w).alloc (Nat.le_refl _) _) hg
  have HB : Hid (Bel w (w.alloc (.cells #[.int .i64 x.id, .bool x.bx.no, .int .i64 x.bx.lx, .int .i64 x.bx.ly, .int .i64 x.bx.hx, .int .i64 x.bx.hy] 57))) := Lib.hid ((Bel.refl w).alloc (Nat.le_refl _) _)
  clear hg
  go_enter Try.func52, Try.ntmps52
  go_upto_region 1 with (fail)
  obtain ⟨W, hW⟩ : ∃ W, w.alloc (.cells #[.int .i64 x.id, .bool x.bx.no, .int .i64 x.bx.lx, .int .i64 x.bx.ly, .int .i64 x.bx.hx, .int .i64 x.bx.hy] 57) = W := ⟨_, rfl⟩
  rw [hW] at P hg' HB ⊢
  clear hW
  obtain ⟨p0, p1, p2, p3, p4, p5⟩ := Blk.cells6 P
  clear P
  go_wp2
  go_ret
  exact ⟨by first | rfl | simp, HB.out⟩
set_option maxHeartbeats 4000000 in
set_option maxRecDepth 100000 in
theorem indexE_calls (A : Option Addr) (c : Nat) (l : List En) (id : Int) (g : Nat) (w : World) (h : CE w A l) (hg : w.cell? ⟨g, 0, none⟩ = some (.int .i64 id)) :
    Calls Try.prog 51 #[.slice A l.length c, .func (.func 52) #[] #[.pointer (some ⟨g, 0, none⟩)]] w fun e w' => e = .returned (.int .i64 (findN l id)) ∧ Bel w w' := by
  have hm1 := h.len
  have HX := Lib.hid h
  have HG := Lib.hid hg
  clear h hg
  go_enter Try.func51, Try.ntmps51
  go_wp2
  go_loopw [8] (fun i wr => ∃ (k : Nat), i = .int .i64 k ∧ k ≤ l.length ∧ Hid (Below w.heap.size w wr) ∧ Hid (∀ i (h : i < k), ∀ (h2 : i < l.length), l[i].id ≠ id)) (fun i _ => l.length - (intOf i).toNat)
  case atStart => exact ⟨0, rfl, by omega, Lib.hid (Below.refl _ _), Lib.hid (fun i h => by omega)⟩
  case round =>
    obtain ⟨k, rfl, hk, HBk, HA⟩ := hrel
    by_cases hlt : k < l.length
    · obtain ⟨b, off, e8, _, x0, x1, x2, x3, x4, x5⟩ := en_at (HX.out.below HBk.out) k hlt
      subst e8
      have HYES : Hid (l[k].id = id → findN l id = k) := Lib.hid (fun e => findN_at hlt (fun i hi => HA.out i hi (by omega)) e)
      have HNOT : Hid (l[k].id ≠ id → ∀ i (h : i < k + 1), ∀ (h2 : i < l.length), l[i].id ≠ id) := Lib.hid (fun e i hi h2 => by
        by_cases hik : i = k
        · subst hik; exact e
        · exact HA.out i (by omega) h2)
      obtain ⟨x, hx⟩ : ∃ x, l[k] = x := ⟨_, rfl⟩
      rw [hx] at x0 x1 x2 x3 x4 x5 HYES HNOT
      have HF := Lib.hid (find1_calls x id g wr (kc HBk.out HG.out))
      clear hx HA
      cases hxi : (x.id == id)
      · rw [hxi] at HF
        have HN := Lib.hid (HNOT.out (by simpa using hxi))
        clear hxi HYES HNOT
        go_wp2_with (go_at_call 52; refine (HF.out).mono ?_; rintro e w1 ⟨rfl, hb1⟩; have HB1 := Lib.hid (bthen HBk.out hb1); clear hb1)
        go_roundw
        case rel => exact ⟨k + 1, by go_num, by omega, HB1, HN⟩
        case measure => (simp [intOf] <;> omega)
      · rw [hxi] at HF
        have HY := Lib.hid (HYES.out (by simpa using hxi))
        clear hxi HYES HNOT
        go_wp2_with (go_at_call 52; refine (HF.out).mono ?_; rintro e w1 ⟨rfl, hb1⟩; have HB1 := Lib.hid (bthen HBk.out hb1); clear hb1)
        go_ret
        exact ⟨by rw [HY.out]; rfl, HB1.out⟩
    · have : k = l.length := by omega
      subst this
      have HN : Hid (findN l id = -1) := Lib.hid (findN_no (fun i h => HA.out i h h))
      clear hlt hk HA
      go_wp2
      go_ret
      exact ⟨by rw [HN.out]; rfl, HBk.out⟩
set_option maxHeartbeats 4000000 in
set_option maxRecDepth 100000 in
theorem find_calls (lv : Int) (A : Option Addr) (c : Nat) (l : List En) (id : Int) (w : World) (h : CE w A l) :
    Calls Try.prog 18 #[.agg #[.int .i64 lv, .slice A l.length c], .int .i64 id] w fun e w' => e = .returned (.int .i64 (findN l id)) ∧ Bel w w' := by
  have HX := Lib.hid h
  have N := (Blk.new w #[.int .i64 lv, .slice A l.length c] 24).alloc (.cells #[.int .i64 id] 3)
  have I := Blk.new_at (W := w.alloc (.cells #[.int .i64 lv, .slice A l.length c] 24)) (g := w.heap.size + 1) (by simp) #[.int .i64 id] 3
  have HB : Hid (Bel w ((w.alloc (.cells #[.int .i64 lv, .slice A l.length c] 24)).alloc (.cells #[.int .i64 id] 3))) := Lib.hid (((Bel.refl w).alloc (Nat.le_refl _) _).alloc (by simp) _)
  clear h
  go_enter Try.func18, Try.ntmps18
  go_upto_region 1 with (fail)
  obtain ⟨W, hW⟩ : ∃ W, (w.alloc (.cells #[.int .i64 lv, .slice A l.length c] 24)).alloc (.cells #[.int .i64 id] 3) = W := ⟨_, rfl⟩
  rw [hW] at N I HB ⊢
  clear hW
  obtain ⟨gn, hgn⟩ : ∃ x, w.heap.size = x := ⟨_, rfl⟩
  rw [hgn] at N I ⊢
  obtain ⟨gi, hgi⟩ : ∃ x, gn + 1 = x := ⟨_, rfl⟩
  rw [hgi] at I ⊢
  clear hgi hgn
  have n1 : W.cell? ⟨gn, 1, none⟩ = some (.slice A l.length c) := N.cell 1 rfl
  have i0 : W.cell? ⟨gi, 0, none⟩ = some (.int .i64 id) := I.cell 0 rfl
  have HIX := Lib.hid (indexE_calls A c l id gi W (HX.out.below HB.out) i0)
  clear N I
  go_wp2_with (go_at_call 51; refine (HIX.out).mono ?_; rintro e w1 ⟨rfl, hb1⟩; have HB1 := Lib.hid (bthen HB.out hb1); clear hb1)
  go_ret
  exact ⟨rfl, HB1.out⟩
set_option maxHeartbeats 4000000 in
set_option maxRecDepth 100000 in
theorem rfind_calls (lv : Int) (A : Option Addr) (c : Nat) (l : List En) (id : Int) (w : World) (h : CE w A l) :
    Calls Try.prog 19 #[.agg #[.int .i64 lv, .slice A l.length c], .int .i64 id] w fun e w' => e = .returned (.int .i64 (findN l id)) ∧ Bel w w' := by
  have HX := Lib.hid h
  have hm1 := h.len
  have N := Blk.new w #[.int .i64 lv, .slice A l.length c] 28
  have HB : Hid (Bel w (w.alloc (.cells #[.int .i64 lv, .slice A l.length c] 28))) := Lib.hid ((Bel.refl w).alloc (Nat.le_refl _) _)
  clear h
  go_enter Try.func19, Try.ntmps19
  go_upto_region 1 with (fail)
  obtain ⟨W, hW⟩ : ∃ W, w.alloc (.cells #[.int .i64 lv, .slice A l.length c] 28) = W := ⟨_, rfl⟩
  rw [hW] at N HB ⊢
  clear hW
  obtain ⟨gn, hgn⟩ : ∃ x, w.heap.size = x := ⟨_, rfl⟩
  rw [hgn] at N ⊢
  clear hgn
  have n1 : W.cell? ⟨gn, 1, none⟩ = some (.slice A l.length c) := N.cell 1 rfl
  clear N
  go_wp2
  clear n1
  go_loopw [10] (fun i wr => ∃ (k : Nat), i = .int .i64 k ∧ k ≤ l.length ∧ Hid (Below w.heap.size w wr) ∧ Hid (∀ i (h : i < k), ∀ (h2 : i < l.length), l[i].id ≠ id)) (fun i _ => l.length - (intOf i).toNat)
  case atStart => exact ⟨0, rfl, by omega, HB, Lib.hid (fun i h => by omega)⟩
  case round =>
    obtain ⟨k, rfl, hk, HBk, HA⟩ := hrel
    by_cases hlt : k < l.length
    · obtain ⟨b, off, e8, _, x0, x1, x2, x3, x4, x5⟩ := en_at (HX.out.below HBk.out) k hlt
      subst e8
      have HYES : Hid (l[k].id = id → findN l id = k) := Lib.hid (fun e => findN_at hlt (fun i hi => HA.out i hi (by omega)) e)
      have HNOT : Hid (l[k].id ≠ id → ∀ i (h : i < k + 1), ∀ (h2 : i < l.length), l[i].id ≠ id) := Lib.hid (fun e i hi h2 => by
        by_cases hik : i = k
        · subst hik; exact e
        · exact HA.out i (by omega) h2)
      obtain ⟨x, hx⟩ : ∃ x, l[k] = x := ⟨_, rfl⟩
      rw [hx] at x0 x1 x2 x3 x4 x5 HYES HNOT
      have P := Blk.new wr #[.int .i64 x.id, .bool x.bx.no, .int .i64 x.bx.lx, .int .i64 x.bx.ly, .int .i64 x.bx.hx, .int .i64 x.bx.hy] 85
      have HBp := Lib.hid (HBk.out.alloc HBk.out.size (.cells #[.int .i64 x.id, .bool x.bx.no, .int .i64 x.bx.lx, .int .i64 x.bx.ly, .int .i64 x.bx.hx, .int .i64 x.bx.hy] 85))
      clear hx HA
      go_upto_region 4 with (fail)
      obtain ⟨w5, hW⟩ : ∃ Y, wr.alloc (.cells #[.int .i64 x.id, .bool x.bx.no, .int .i64 x.bx.lx, .int .i64 x.bx.ly, .int .i64 x.bx.hx, .int .i64 x.bx.hy] 85) = Y := ⟨_, rfl⟩
      rw [hW] at P HBp ⊢
      obtain ⟨gp, hg⟩ : ∃ g, wr.heap.size = g := ⟨_, rfl⟩
      rw [hg] at P ⊢
      clear hW hg x0 x1 x2 x3 x4 x5
      obtain ⟨p0, p1, p2, p3, p4, p5⟩ := Blk.cells6 P
      clear P
      cases hxi : (x.id == id)
      · have HN := Lib.hid (HNOT.out (by simpa using hxi))
        clear HYES HNOT
        go_wp2
        go_roundw
        case rel => exact ⟨k + 1, by go_num, by omega, HBp, HN⟩
        case measure => (simp [intOf] <;> omega)
      · have HY := Lib.hid (HYES.out (by simpa using hxi))
        clear HYES HNOT
        go_wp2
        go_ret
        exact ⟨by rw [HY.out]; rfl, HBp.out⟩
    · have : k = l.length := by omega
      subst this
      have HN : Hid (findN l id = -1) := Lib.hid (findN_no (fun i h => HA.out i h h))
      clear hlt hk HA
      go_wp2
      go_ret
      exact ⟨by rw [HN.out]; rfl, HBk.out⟩

end Go.Proofs.Ytljcingmjemohaa.K
