/- The reference's Good. -/
import Derived.Test.YtljcingmjemohaaKB
import Derived.Handy
import Derived.Test.YtljcingmjemohaaWNd4
namespace Go.Proofs.Ytljcingmjemohaa.K
open Go Go.RowKit Go.Proofs.YtljcingmjemohaaW.PrintWords Go.Proofs.YtljcingmjemohaaW.PrintLast Go.Proofs.YtljcingmjemohaaW.PrintMore
set_option linter.unusedVariables false
set_option linter.unusedSimpArgs false
open Go.Proofs.Ytljcingmjemohaa.MBox (Bx noneB)
open Go.Proofs.Ytljcingmjemohaa.MChoose (En En0)
open Go.Proofs.Ytljcingmjemohaa.MNd
open Go.Proofs.Ytljcingmjemohaa.MBox (has good)
set_option maxHeartbeats 4000000 in
set_option maxRecDepth 100000 in
theorem rgood_calls (lv : Int) (A : Option Addr) (c : Nat) (l : List En) (w : World) (h : CE w A l) (hc : l.length ≤ c) :
    Calls Try.prog 13 #[.agg #[.int .i64 lv, .slice A l.length c]] w fun e w' => e = .returned (.bool (goodN lv l)) ∧ Bel w w' := by
  have HX := Lib.hid h
  have hm1 := h.len
  have N := Blk.new w #[.int .i64 lv, .slice A l.length c] 28
  have HB : Hid (Bel w (w.alloc (.cells #[.int .i64 lv, .slice A l.length c] 28))) := Lib.hid ((Bel.refl w).alloc (Nat.le_refl _) _)
  have HHA := Lib.hid refHas_calls
  have HCC := Lib.hid hc
  clear h hc
  by_cases h1 : lv < 0
  · have HG : Hid (goodN lv l = false) := Lib.hid (by unfold goodN; rw [decide_eq_false (show ¬ 0 ≤ lv by omega)]; simp)
    go_enter Try.func13, Try.ntmps13
    go_upto_region 1 with (fail)
    obtain ⟨W, hW⟩ : ∃ Y, w.alloc (.cells #[.int .i64 lv, .slice A l.length c] 28) = Y := ⟨_, rfl⟩
    rw [hW] at N HB ⊢
    clear hW
    obtain ⟨gn, hgn⟩ : ∃ x, w.heap.size = x := ⟨_, rfl⟩
    rw [hgn] at N ⊢
    clear hgn
    have n0 : W.cell? ⟨gn, 0, none⟩ = some (.int .i64 lv) := N.cell 0 rfl
    have n1 : W.cell? ⟨gn, 1, none⟩ = some (.slice A l.length c) := N.cell 1 rfl
    go_wp2
    go_ret
    exact ⟨by rw [HG.out]; first | rfl | simp, HB.out⟩
  by_cases h2 : 20 < lv
  · have HG : Hid (goodN lv l = false) := Lib.hid (by unfold goodN; rw [decide_eq_false (show ¬ lv ≤ 20 by omega)]; simp)
    go_enter Try.func13, Try.ntmps13
    go_upto_region 1 with (fail)
    obtain ⟨W, hW⟩ : ∃ Y, w.alloc (.cells #[.int .i64 lv, .slice A l.length c] 28) = Y := ⟨_, rfl⟩
    rw [hW] at N HB ⊢
    clear hW
    obtain ⟨gn, hgn⟩ : ∃ x, w.heap.size = x := ⟨_, rfl⟩
    rw [hgn] at N ⊢
    clear hgn
    have n0 : W.cell? ⟨gn, 0, none⟩ = some (.int .i64 lv) := N.cell 0 rfl
    have n1 : W.cell? ⟨gn, 1, none⟩ = some (.slice A l.length c) := N.cell 1 rfl
    go_wp2
    go_ret
    exact ⟨by rw [HG.out]; first | rfl | simp, HB.out⟩
  by_cases h3 : 8 < l.length
  · have HG : Hid (goodN lv l = false) := Lib.hid (by unfold goodN; rw [decide_eq_false (show ¬ l.length ≤ 8 by omega)]; simp)
    have h4 : (8 : Int) < l.length := by omega
    go_enter Try.func13, Try.ntmps13
    go_upto_region 1 with (fail)
    obtain ⟨W, hW⟩ : ∃ Y, w.alloc (.cells #[.int .i64 lv, .slice A l.length c] 28) = Y := ⟨_, rfl⟩
    rw [hW] at N HB ⊢
    clear hW
    obtain ⟨gn, hgn⟩ : ∃ x, w.heap.size = x := ⟨_, rfl⟩
    rw [hgn] at N ⊢
    clear hgn
    have n0 : W.cell? ⟨gn, 0, none⟩ = some (.int .i64 lv) := N.cell 0 rfl
    have n1 : W.cell? ⟨gn, 1, none⟩ = some (.slice A l.length c) := N.cell 1 rfl
    go_wp2
    go_ret
    exact ⟨by rw [HG.out]; first | rfl | simp, HB.out⟩
  have HGO : Hid (goodN lv l = fineTo l l.length) := Lib.hid (by unfold goodN; rw [decide_eq_true (show 0 ≤ lv by omega), decide_eq_true (show lv ≤ 20 by omega), decide_eq_true (show l.length ≤ 8 by omega)]; simp)
  have h4 : ¬ (8 : Int) < l.length := by omega
  go_enter Try.func13, Try.ntmps13
  go_upto_region 1 with (fail)
  obtain ⟨W, hW⟩ : ∃ Y, w.alloc (.cells #[.int .i64 lv, .slice A l.length c] 28) = Y := ⟨_, rfl⟩
  rw [hW] at N HB ⊢
  clear hW
  obtain ⟨gn, hgn⟩ : ∃ x, w.heap.size = x := ⟨_, rfl⟩
  rw [hgn] at N ⊢
  clear hgn
  have n0 : W.cell? ⟨gn, 0, none⟩ = some (.int .i64 lv) := N.cell 0 rfl
  have n1 : W.cell? ⟨gn, 1, none⟩ = some (.slice A l.length c) := N.cell 1 rfl
  have HN := Lib.hid N
  have hgw : Hid (gn < W.heap.size) := Lib.hid N.lt
  clear N
  go_upto_region 3 with (fail)
  clear h1 h2 h3 h4 n0
  go_wp2
  clear n1
  go_loopw [24] (fun i wr => ∃ (k : Nat), i = .int .i64 k ∧ k ≤ l.length ∧ Hid (Below w.heap.size w wr) ∧ Hid (Blk wr gn #[.int .i64 lv, .slice A l.length c] 28) ∧ Hid (fineTo l k = true)) (fun i _ => l.length - (intOf i).toNat)
  case atStart => exact ⟨0, rfl, by omega, HB, HN, Lib.hid rfl⟩
  case round =>
    obtain ⟨k, rfl, hk, HBk, HNk, HFk⟩ := hrel
    by_cases hlt : k < l.length
    · obtain ⟨b, off, e8, _, x0, x1, x2, x3, x4, x5⟩ := en_at (HX.out.below HBk.out) k hlt
      subst e8
      have HFN : Hid (fineTo l (k + 1) = (has (l[k]'hlt).bx && !(ids (l.take k)).contains (l[k]'hlt).id)) := Lib.hid (by rw [fineTo, HFk.out, getD_en hlt, Bool.true_and])
      obtain ⟨x, hx⟩ : ∃ x, l[k]'hlt = x := ⟨_, rfl⟩
      rw [hx] at x0 x1 x2 x3 x4 x5 HFN
      have HKL := Lib.hid hlt
      have P := Blk.new wr #[.int .i64 x.id, .bool x.bx.no, .int .i64 x.bx.lx, .int .i64 x.bx.ly, .int .i64 x.bx.hx, .int .i64 x.bx.hy] 85
      have HBp := Lib.hid (HBk.out.alloc HBk.out.size (.cells #[.int .i64 x.id, .bool x.bx.no, .int .i64 x.bx.lx, .int .i64 x.bx.ly, .int .i64 x.bx.hx, .int .i64 x.bx.hy] 85))
      have HNp := Lib.hid (HNk.out.alloc (.cells #[.int .i64 x.id, .bool x.bx.no, .int .i64 x.bx.lx, .int .i64 x.bx.ly, .int .i64 x.bx.hx, .int .i64 x.bx.hy] 85))
      clear hx
      go_upto_region 6 with (fail)
      obtain ⟨w5, hW⟩ : ∃ Y, wr.alloc (.cells #[.int .i64 x.id, .bool x.bx.no, .int .i64 x.bx.lx, .int .i64 x.bx.ly, .int .i64 x.bx.hx, .int .i64 x.bx.hy] 85) = Y := ⟨_, rfl⟩
      rw [hW] at P HBp HNp ⊢
      obtain ⟨gp, hg⟩ : ∃ g, wr.heap.size = g := ⟨_, rfl⟩
      rw [hg] at P ⊢
      clear hW hg x0 x1 x2 x3 x4 x5
      obtain ⟨p0, p1, p2, p3, p4, p5⟩ := Blk.cells6 P
      have HP := Lib.hid P
      clear P HBk HNk
      have HSX := Lib.hid (HHA.out x.bx)
      cases hh : has x.bx
      · rw [hh] at HFN HSX
        have HG : Hid (goodN lv l = false) := Lib.hid (not_good (k := k + 1) (by have := HKL.out; omega) (by rw [HFN.out]; rfl))
        clear hh
        go_wp2_with (go_at_call 26; refine (HSX.out _).mono ?_; rintro e w6 ⟨rfl, hb6⟩; have HB6 := Lib.hid (bthen HBp.out hb6); clear hb6)
        go_ret
        exact ⟨by rw [HG.out]; first | rfl | simp, HB6.out⟩
      · rw [hh] at HFN HSX
        clear hh
        go_upto_region 8 with (go_at_call 26; refine (HSX.out _).mono ?_; rintro e w6 ⟨rfl, hb6⟩; have HB6 := Lib.hid (bthen HBp.out hb6); have HN6 := Lib.hid (Blk.bel HNp.out hb6); have HP6 := Lib.hid (Blk.bel HP.out hb6); clear hb6 p0 p1 p2 p3 p4 p5)
        have n1 := HN6.out.cell 1 rfl
        have hkc : k ≤ c := by have := HCC.out; have := HKL.out; omega
        go_wp2
        clear n1
        go_loopw [38] (fun i wr => ∃ (j : Nat), i = .int .i64 j ∧ j ≤ k ∧ Hid (Below w.heap.size w wr) ∧ Hid (Below w6.heap.size w6 wr) ∧ Hid (∀ i (h : i < j), ∀ (h2 : i < l.length), l[i].id ≠ x.id)) (fun i _ => k - (intOf i).toNat)
        case atStart => exact ⟨0, rfl, by omega, HB6, Lib.hid (Below.refl _ _), Lib.hid (fun i h => by omega)⟩
        case round =>
          obtain ⟨j, rfl, hj, HBj, HB67, HA⟩ := hrel
          by_cases hjk : j < k
          · have hjl : j < l.length := by omega
            obtain ⟨b', off', e9, _, y0, y1, y2, y3, y4, y5⟩ := en_at (HX.out.below HBj.out) j hjl
            injection e9 with e9
            injection e9 with e9 e10 e11
            subst e9 e10
            have HYES : Hid ((l[j]'hjl).id = x.id → fineTo l (k + 1) = false) := Lib.hid (fun e => by
              rw [HFN.out]
              have : (ids (l.take k)).contains x.id = true := by
                rw [List.contains_iff_mem]
                unfold ids
                refine List.mem_map.2 ⟨l[j]'hjl, ?_, e⟩
                rw [List.mem_take_iff_getElem]
                exact ⟨j, by omega, rfl⟩
              rw [this]; rfl)
            have HNOT : Hid ((l[j]'hjl).id ≠ x.id → ∀ i (h : i < j + 1), ∀ (h2 : i < l.length), l[i].id ≠ x.id) := Lib.hid (fun e i hi h2 => by
              by_cases hik : i = j
              · subst hik; exact e
              · exact HA.out i (by omega) h2)
            obtain ⟨y, hy⟩ : ∃ y, l[j]'hjl = y := ⟨_, rfl⟩
            rw [hy] at y0 y1 y2 y3 y4 y5 HYES HNOT
            have PY := Blk.new wr #[.int .i64 y.id, .bool y.bx.no, .int .i64 y.bx.lx, .int .i64 y.bx.ly, .int .i64 y.bx.hx, .int .i64 y.bx.hy] 85
            have HBq := Lib.hid (HBj.out.alloc HBj.out.size (.cells #[.int .i64 y.id, .bool y.bx.no, .int .i64 y.bx.lx, .int .i64 y.bx.ly, .int .i64 y.bx.hx, .int .i64 y.bx.hy] 85))
            have HB6q := Lib.hid (HB67.out.alloc HB67.out.size (.cells #[.int .i64 y.id, .bool y.bx.no, .int .i64 y.bx.lx, .int .i64 y.bx.ly, .int .i64 y.bx.hx, .int .i64 y.bx.hy] 85))
            clear hy HA
            go_upto_region 11 with (fail)
            obtain ⟨w8, hW⟩ : ∃ Y, wr.alloc (.cells #[.int .i64 y.id, .bool y.bx.no, .int .i64 y.bx.lx, .int .i64 y.bx.ly, .int .i64 y.bx.hx, .int .i64 y.bx.hy] 85) = Y := ⟨_, rfl⟩
            rw [hW] at PY HBq HB6q ⊢
            obtain ⟨gq, hg⟩ : ∃ g, wr.heap.size = g := ⟨_, rfl⟩
            rw [hg] at PY ⊢
            clear hW hg y0 y1 y2 y3 y4 y5
            obtain ⟨q0, q1, q2, q3, q4, q5⟩ := Blk.cells6 PY
            obtain ⟨p0, p1, p2, p3, p4, p5⟩ := Blk.cells6 (Blk.bel HP6.out HB6q.out)
            clear PY
            cases hxy : (x.id == y.id)
            · have HN2 := Lib.hid (HNOT.out (by intro e; rw [e] at hxy; simp at hxy))
              clear HYES HNOT
              go_wp2
              go_roundw
              case rel => exact ⟨j + 1, by go_num, by omega, HBq, HB6q, HN2⟩
              case measure => (simp [intOf] <;> omega)
            · have HY := Lib.hid (not_good (lv := lv) (k := k + 1) (by have := HKL.out; omega) (HYES.out (show x.id = y.id by simpa using hxy).symm))
              clear HYES HNOT
              go_wp2
              go_ret
              exact ⟨by rw [HY.out]; first | rfl | simp, HBq.out⟩
          · have : j = k := by omega
            subst this
            have HF8 : Hid (fineTo l (j + 1) = true) := Lib.hid (by
              rw [HFN.out]
              have : (ids (l.take j)).contains x.id = false := by
                rw [Bool.eq_false_iff]
                intro hcn
                rw [List.contains_iff_mem] at hcn
                unfold ids at hcn
                obtain ⟨z, hz, hzx⟩ := List.mem_map.1 hcn
                rw [List.mem_take_iff_getElem] at hz
                obtain ⟨i, hi, rfl⟩ := hz
                exact HA.out i (by omega) (by omega) hzx
              rw [this]; rfl)
            have HN8 := Lib.hid (Blk.bel HN6.out HB67.out)
            clear HA hjk hj
            go_wp2
            go_roundw
            case rel => exact ⟨j + 1, by go_num, by have := HKL.out; omega, HBj, HN8, HF8⟩
            case measure => (have := HKL.out; simp [intOf] <;> omega)
    · have : k = l.length := by omega
      subst this
      clear hlt hk
      go_wp2
      go_ret
      exact ⟨by rw [HGO.out, HFk.out]; rfl, HBk.out⟩

end Go.Proofs.Ytljcingmjemohaa.K
