/- node.Good: a map of the Ids seen. -/
import Derived.Test.YtljcingmjemohaaKB
import Derived.Handy
import Derived.Test.YtljcingmjemohaaWNd3
namespace Go.Proofs.Ytljcingmjemohaa.K
open Go Go.RowKit Go.Proofs.YtljcingmjemohaaW.PrintWords Go.Proofs.YtljcingmjemohaaW.PrintLast Go.Proofs.YtljcingmjemohaaW.PrintMore
set_option linter.unusedVariables false
set_option linter.unusedSimpArgs false
open Go.Proofs.Ytljcingmjemohaa.MBox (Bx noneB)
open Go.Proofs.Ytljcingmjemohaa.MChoose (En En0)
open Go.Proofs.Ytljcingmjemohaa.MNd
open Go.Proofs.Ytljcingmjemohaa.MBox (has good)
theorem plainElem_bool_inv {H : Type} {P : Program} {e : TypeId} (he : P.underlying e = some .bool) {v : Value} {z : DataW H × List MemPlace} (h : plainElem P e v = some z) : ∃ a, v = .bool a ∧ z = (.lit (.bool a), []) := by
  unfold plainElem at h
  rw [he] at h
  cases v <;> simp_all
theorem lookup_bool {H : Type} {P : Program} {w : World} {k t e b n : Nat} {D : DataW H} (h : w.ownsMap P k (plainElem P e) b n D) (K : Go.Maps.Keyed P k) (ht : P.underlying t = some (.map k e)) (he : P.underlying e = some .bool) (hz : (zeroValue e).run P w = .ok (.bool false) w)
    {key : Value} {kl : Lit} (hkey : keyOf P k key = some kl) : ∃ c, (Instr.lookup t (.map (some b)) key false).run P w = .ok (.bool c) w ∧ D.atKey kl (.lit (.bool false)) = .lit (.bool c) := by
  obtain ⟨v, ps, hrun, hv⟩ := h.lookup K ht hz (plainElem_bool he false) hkey
  obtain ⟨c, rfl, hc⟩ := plainElem_bool_inv he hv
  simp only [Prod.mk.injEq] at hc
  exact ⟨c, hrun, hc.1⟩
/-- What the map of seen numbers tells. -/
def Seen (D : DataW Unit) (S : List Int) : Prop := Go.Maps.IsMap D ∧ ∀ i : Int, D.atKey (.int .i64 i) (.lit (.bool false)) = .lit (.bool (S.contains i))
theorem Seen.none : Seen (.map []) [] := ⟨Go.Maps.isMap_empty, fun i => rfl⟩
theorem Seen.put {D : DataW Unit} {S : List Int} (h : Seen D S) (i : Int) : Seen (D.put (.int .i64 i) (.lit (.bool true))) (S ++ [i]) := by
  refine ⟨h.1.put _ _, fun j => ?_⟩
  by_cases e : j = i
  · subst e
    rw [Go.Maps.atKey_put_same h.1 (by first | trivial | rfl | decide | simp [WideAt.IsKeyLit])]
    simp
  · rw [Go.Maps.atKey_put_other (by intro e'; injection e' with _ e'; exact e e'), h.2 j]
    simp [e]
def OwnMap (w : World) (b n : Nat) (S : List Int) : Prop := ∃ D : DataW Unit, w.ownsMap Try.prog 3 (plainElem Try.prog 4) b n D ∧ Seen D S
theorem lawInt : Go.Maps.Keyed Try.prog 3 := Go.Maps.int_keyed Try.underlying3
set_option maxRecDepth 100000 in
theorem OwnMap.look {w : World} {b n : Nat} {S : List Int} (h : OwnMap w b n S) {i : Int} (hi : (Lit.int .i64 i).wf = true) : (Instr.lookup 86 (.map (some b)) (.int .i64 i) false).run Try.prog w = .ok (.bool (S.contains i)) w := by
  obtain ⟨D, h1, h2⟩ := h
  obtain ⟨c, hc, ha⟩ := lookup_bool h1 lawInt Try.underlying86 Try.underlying4 (by kernel_rfl) (Go.Maps.keyOf_int_mk Try.underlying3 hi)
  rw [h2.2 i] at ha
  injection ha with ha
  injection ha with ha
  rw [ha]
  exact hc
theorem OwnMap.kept {w w' : World} {row : Option Nat} {b n : Nat} {S : List Int} (h : OwnMap w b n S) (hg : w.grownBy w' row) (hne : some b ≠ row) : OwnMap w' b n S := by
  obtain ⟨D, h1, h2⟩ := h
  exact ⟨D, h1.kept hg hne, h2⟩
theorem OwnMap.bel {w w' : World} {b n : Nat} {S : List Int} (h : OwnMap w b n S) (hb : Bel w w') : OwnMap w' b n S := h.kept (row := none) ⟨hb.os, hb.tape, hb.output, hb.size, fun k hk _ => hb.block k hk⟩ (by simp)
set_option maxRecDepth 100000 in
theorem OwnMap.put {w : World} {b n : Nat} {S : List Int} (h : OwnMap w b n S) (hn : n < maxLen) {i : Int} (hi : (Lit.int .i64 i).wf = true) : ∃ w', (Instr.mapUpdate 86 (.map (some b)) (.int .i64 i) (.bool true)).run Try.prog w = .ok () w' ∧ OwnMap w' b (n + 1) (S ++ [i]) ∧ w.grownBy w' (some b) := by
  obtain ⟨D, h1, h2⟩ := h
  obtain ⟨w', hr, ho, hg⟩ := h1.update lawInt Try.underlying86 hn (Go.Maps.keyOf_int_mk Try.underlying3 hi) (plainElem_bool Try.underlying4 true)
  exact ⟨w', hr, ⟨_, ho, h2.put i⟩, hg⟩
set_option maxHeartbeats 4000000 in
set_option maxRecDepth 100000 in
theorem ngood_calls (lv : Int) (A : Option Addr) (c : Nat) (l : List En) (w : World) (h : CE w A l) (hw : ∀ x ∈ l, (Lit.int .i64 x.id).wf = true) :
    Calls Try.prog 12 #[.agg #[.int .i64 lv, .slice A l.length c]] w fun e w' => e = .returned (.bool (goodN lv l)) ∧ Bel w w' := by
  have HX := Lib.hid h
  have HWF := Lib.hid hw
  have hm1 := h.len
  have hmm := @run_makeMap Try.prog
  have N := (Blk.new w #[.int .i64 lv, .slice A l.length c] 24).alloc (.map #[] 0)
  have HB : Hid (Bel w ((w.alloc (.cells #[.int .i64 lv, .slice A l.length c] 24)).alloc (.map #[] 0))) := Lib.hid (((Bel.refl w).alloc (Nat.le_refl _) _).alloc (by simp) _)
  have HM : Hid (OwnMap ((w.alloc (.cells #[.int .i64 lv, .slice A l.length c] 24)).alloc (.map #[] 0)) (w.heap.size + 1) 0 []) := Lib.hid ⟨_, by have := World.ownsMap_made (H := Unit) (w.alloc (.cells #[.int .i64 lv, .slice A l.length c] 24)) Try.prog 3 (plainElem Try.prog 4); simpa using this, Seen.none⟩
  have HSO := Lib.hid solid_calls
  clear h hw
  go_enter Try.func12, Try.ntmps12
  go_upto_region 2 with (fail)
  obtain ⟨W, hW⟩ : ∃ Y, (w.alloc (.cells #[.int .i64 lv, .slice A l.length c] 24)).alloc (.map #[] 0) = Y := ⟨_, rfl⟩
  rw [hW] at N HB HM ⊢
  clear hW hmm
  obtain ⟨gn, hgn⟩ : ∃ x, w.heap.size = x := ⟨_, rfl⟩
  have HGN := Lib.hid hgn
  rw [hgn] at N HM ⊢
  obtain ⟨gm, hgm⟩ : ∃ x, gn + 1 = x := ⟨_, rfl⟩
  have HGM := Lib.hid hgm
  rw [hgm] at HM ⊢
  clear hgm hgn
  have n1 : W.cell? ⟨gn, 1, none⟩ = some (.slice A l.length c) := N.cell 1 rfl
  have HN := Lib.hid N
  clear N
  go_wp2
  clear n1
  go_loopw [10] (fun i wr => ∃ (k : Nat), i = .int .i64 k ∧ k ≤ l.length ∧ Hid (Below w.heap.size w wr) ∧ Hid (Blk wr gn #[.int .i64 lv, .slice A l.length c] 24) ∧ Hid (OwnMap wr gm k (ids (l.take k))) ∧ Hid (fineTo l k = true)) (fun i _ => l.length - (intOf i).toNat)
  case atStart => exact ⟨0, rfl, by omega, HB, HN, Lib.hid (by rw [List.take_zero]; exact HM.out), Lib.hid rfl⟩
  case round =>
    obtain ⟨k, rfl, hk, HBk, HNk, HMk, HFk⟩ := hrel
    by_cases hlt : k < l.length
    · obtain ⟨b, off, e8, _, x0, x1, x2, x3, x4, x5⟩ := en_at (HX.out.below HBk.out) k hlt
      subst e8
      have HFN : Hid (fineTo l (k + 1) = (has (l[k]).bx && !(ids (l.take k)).contains (l[k]).id)) := Lib.hid (by rw [fineTo, HFk.out, getD_en hlt, Bool.true_and])
      have HIT := Lib.hid (ids_take hlt)
      have HWX := Lib.hid (HWF.out _ (List.getElem_mem hlt))
      have HKL := Lib.hid hlt
      obtain ⟨x, hx⟩ : ∃ x, l[k]'hlt = x := ⟨_, rfl⟩
      rw [hx] at x0 x1 x2 x3 x4 x5
      try rw [hx] at HFN
      try rw [hx] at HIT
      try rw [hx] at HWX
      have P := Blk.new wr #[.int .i64 x.id, .bool x.bx.no, .int .i64 x.bx.lx, .int .i64 x.bx.ly, .int .i64 x.bx.hx, .int .i64 x.bx.hy] 57
      have HBp := Lib.hid (HBk.out.alloc HBk.out.size (.cells #[.int .i64 x.id, .bool x.bx.no, .int .i64 x.bx.lx, .int .i64 x.bx.ly, .int .i64 x.bx.hx, .int .i64 x.bx.hy] 57))
      have HNp := Lib.hid (HNk.out.alloc (.cells #[.int .i64 x.id, .bool x.bx.no, .int .i64 x.bx.lx, .int .i64 x.bx.ly, .int .i64 x.bx.hx, .int .i64 x.bx.hy] 57))
      have HMp := Lib.hid (HMk.out.bel ((Bel.refl wr).alloc (Nat.le_refl _) (.cells #[.int .i64 x.id, .bool x.bx.no, .int .i64 x.bx.lx, .int .i64 x.bx.ly, .int .i64 x.bx.hx, .int .i64 x.bx.hy] 57)))
      clear hx
      go_upto_region 5 with (fail)
      obtain ⟨w5, hW⟩ : ∃ Y, wr.alloc (.cells #[.int .i64 x.id, .bool x.bx.no, .int .i64 x.bx.lx, .int .i64 x.bx.ly, .int .i64 x.bx.hx, .int .i64 x.bx.hy] 57) = Y := ⟨_, rfl⟩
      rw [hW] at P HBp HNp HMp ⊢
      obtain ⟨gp, hg⟩ : ∃ g, wr.heap.size = g := ⟨_, rfl⟩
      rw [hg] at P ⊢
      clear hW hg x0 x1 x2 x3 x4 x5
      obtain ⟨p0, p1, p2, p3, p4, p5⟩ := Blk.cells6 P
      have HP := Lib.hid P
      clear P HBk HNk HMk
      have hlk := HMp.out.look HWX.out
      obtain ⟨S, hS⟩ : ∃ S, ids (l.take k) = S := ⟨_, rfl⟩
      rw [hS] at hlk HFN HIT HMp
      have HSS := Lib.hid hS
      clear hS
      cases hc : S.contains x.id
      · rw [hc] at hlk HFN
        have HSX := Lib.hid (HSO.out x.bx)
        cases hh : has x.bx
        · rw [hh] at HFN HSX
          have HG : Hid (goodN lv l = false) := Lib.hid (not_good (k := k + 1) (by have := HKL.out; omega) (by rw [HFN.out]; rfl))
          clear hc hh HIT
          go_wp2_with (go_at_call 43; refine (HSX.out _).mono ?_; rintro e w6 ⟨rfl, hb6⟩; have HB6 := Lib.hid (bthen HBp.out hb6); clear hb6)
          go_ret
          exact ⟨by rw [HG.out]; rfl, HB6.out⟩
        · rw [hh] at HFN HSX
          clear hc hh
          go_upto_region 7 with (go_at_call 43; refine (HSX.out _).mono ?_; rintro e w6 ⟨rfl, hb6⟩; have HB6 := Lib.hid (bthen HBp.out hb6); have HN6 := Lib.hid (Blk.bel HNp.out hb6); have HM6 := Lib.hid (HMp.out.bel hb6); have HP6 := Lib.hid (Blk.bel HP.out hb6); clear hb6 p0 p1 p2 p3 p4 p5 hlk)
          obtain ⟨p0, p1, p2, p3, p4, p5⟩ := Blk.cells6 HP6.out
          obtain ⟨w7, hup, HM7, hg7⟩ := HM6.out.put (by have := HKL.out; unfold maxLen; omega) HWX.out
          have B7 : Hid (Below w.heap.size w w7) := Lib.hid (HB6.out.grown hg7 HB6.out.size (fun j hj => by cases hj; have := HGM.out; have := HGN.out; omega))
          have N7 := Lib.hid ((hg7.block gn HN6.out.lt (fun e => by injection e with e; have := HGM.out; omega)).trans HN6.out)
          have HM8 : Hid (OwnMap w7 gm (k + 1) (ids (l.take (k + 1)))) := Lib.hid (by rw [HIT.out]; exact HM7)
          have HF8 : Hid (fineTo l (k + 1) = true) := Lib.hid (by rw [HFN.out]; rfl)
          clear hg7 HM7
          go_wp2
          go_roundw
          case rel => exact ⟨k + 1, by go_num, by have := HKL.out; omega, B7, N7, HM8, HF8⟩
          case measure => (have := HKL.out; simp [intOf] <;> omega)
      · rw [hc] at hlk HFN
        have HG : Hid (goodN lv l = false) := Lib.hid (not_good (k := k + 1) (by have := HKL.out; omega) (by rw [HFN.out]; simp))
        clear hc HIT
        go_wp2
        go_ret
        exact ⟨by rw [HG.out]; first | rfl | simp, HBp.out⟩
    · have : k = l.length := by omega
      subst this
      clear hlt hk
      have HG : Hid (goodN lv l = (decide (0 ≤ lv) && (decide (lv ≤ 20) && decide (l.length ≤ 8)))) := Lib.hid (by unfold goodN; rw [HFk.out, Bool.true_and])
      have n0 : wr.cell? ⟨gn, 0, none⟩ = some (.int .i64 lv) := HNk.out.cell 0 rfl
      have n1 : wr.cell? ⟨gn, 1, none⟩ = some (.slice A l.length c) := HNk.out.cell 1 rfl
      by_cases h1 : 0 ≤ lv
      · by_cases h2 : lv ≤ 20
        · by_cases h3 : l.length ≤ 8
          · have h4 : (l.length : Int) ≤ 8 := by omega
            go_wp2
            go_ret
            exact ⟨by rw [HG.out, decide_eq_true h1, decide_eq_true h2, decide_eq_true h3]; first | rfl | simp, HBk.out⟩
          · have h4 : ¬ (l.length : Int) ≤ 8 := by omega
            go_wp2
            go_ret
            exact ⟨by rw [HG.out, decide_eq_true h1, decide_eq_true h2, decide_eq_false h3]; first | rfl | simp, HBk.out⟩
        · go_wp2
          go_ret
          exact ⟨by rw [HG.out, decide_eq_true h1, decide_eq_false (show ¬ lv ≤ 20 by omega)]; first | rfl | simp, HBk.out⟩
      · go_wp2
        go_ret
        exact ⟨by rw [HG.out, decide_eq_false (show ¬ 0 ≤ lv by omega)]; first | rfl | simp, HBk.out⟩

end Go.Proofs.Ytljcingmjemohaa.K
