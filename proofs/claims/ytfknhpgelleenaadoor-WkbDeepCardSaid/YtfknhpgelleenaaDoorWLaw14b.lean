/- WkbDeep walked. -/
import Derived.Test.YtfknhpgelleenaaDoorKB
import Derived.Handy
import Derived.Test.YtfknhpgelleenaaDoorRD3
import Derived.Test.YtfknhpgelleenaaDoorKWW
import Derived.Test.YtfknhpgelleenaaDoorMRd
import Derived.IntWalk
namespace Go.Proofs.YtfknhpgelleenaaDoor.K
open Go Go.RowKit Go.Proofs.YtfknhpgelleenaaDoorW.PrintWords Go.Proofs.YtfknhpgelleenaaDoorW.PrintLast Go.Proofs.YtfknhpgelleenaaDoorW.PrintMore
set_option linter.unusedVariables false
set_option linter.unusedSimpArgs false
open Go.Proofs.YtfknhpgelleenaaDoor.MRead (deepB deepL deepS deepL_len readS)
theorem bytes_deepB (o : Bool) : bytesOk (deepB o) := by intro x hx; cases o <;> simp [deepB] at hx <;> omega
theorem bytes_deepL (o : Bool) : ∀ k, bytesOk (deepL o k)
  | 0 => fun x hx => by simp [deepL] at hx
  | k + 1 => bytesOk_append (bytes_deepL o k) (bytes_deepB o)
theorem bytes_deepS (o : Bool) (k : Nat) : bytesOk (deepS o k) := by
  intro x hx
  unfold deepS at hx
  rcases List.mem_or_eq_of_mem_set hx with h | h
  · exact bytes_deepL o k x h
  · omega
theorem RB.opens {w0 W : World} {v : Value} {l : List Int} (h : RB w0 W v l) (h0 : 0 < l.length) : ∃ g cap cur, v = .slice (some ⟨g, 0, none⟩) l.length cap ∧ l.length ≤ cap ∧ Blk W g cur 5 ∧ cur.size = cap ∧ w0.heap.size ≤ g := by
  obtain ⟨hok, inner, ⟨hlen, hown⟩, -⟩ := h
  rcases hown with ⟨_, e⟩ | ⟨g, cap, cur, e, hbg, hh, hle, _, hcs, _⟩
  · omega
  have hcs : cur.size = cap * 1 := hcs
  exact ⟨g, cap, cur, e, hle, hh, by omega, hbg⟩
theorem deepS_len (o : Bool) (k : Nat) : (deepS o k).length = 9 * k := by unfold deepS; rw [List.length_set, deepL_len]
set_option maxHeartbeats 4000000 in
set_option maxRecDepth 100000 in
theorem deep_true (x : Int) (w : World) (hx : 0 ≤ x ∧ x < 256) (hGl : Gl w) :
    Calls Tryd.prog 10 #[.int .u8 x, .bool true] w fun e w' => e = .returned (.bool true) ∧ Bel w w' := by
  have HGL := Lib.hid hGl
  obtain ⟨k, hk⟩ : ∃ k : Nat, (k : Int) = 1 + x % 40 := ⟨(1 + x % 40).toNat, by omega⟩
  have HK := Lib.hid (show 1 ≤ k ∧ k ≤ 40 from ⟨by omega, by omega⟩)
  obtain ⟨r, hr⟩ : ∃ r, x % 40 = r := ⟨_, rfl⟩
  have ht : x.tmod 40 = r := by rw [← hr]; exact Int.tmod_eq_emod_of_nonneg hx.1
  have hw0 : IntKind.u8.wrap r = r := by rw [IntKind.wrap_u8]; omega
  have hw1 : IntKind.i64.wrap r = r := IntWalk.i64_in _ (by omega)
  have hw2 : IntKind.i64.wrap (1 + r) = k := by rw [IntWalk.i64_in _ (by omega)]; omega
  have HLAW := Lib.hid (MRead.deep_law k HK.out.1 HK.out.2 true)
  clear hGl hk hr hx
  go_enter Tryd.func10, Tryd.ntmps10
  go_wp2
  go_loopw [6, 7] (fun bv i wr => ∃ j : Nat, i = .int .i64 j ∧ j ≤ k ∧ Hid (RB w wr bv (deepL true j)) ∧ Hid (Bel w wr)) (fun _ i _ => k - (intOf i).toNat)
  case atStart => exact ⟨0, rfl, by omega, Lib.hid (RB.nil _ _), Lib.hid (Bel.refl _)⟩
  case round =>
    obtain ⟨j, rfl, hj, HR, HB⟩ := hrel
    by_cases hlt : j < k
    · have HJ := Lib.hid hlt
      have HCL : Hid (CB (wr.alloc (.cells #[.int .u8 1, .int .u8 7, .int .u8 0, .int .u8 0, .int .u8 0, .int .u8 1, .int .u8 0, .int .u8 0, .int .u8 0] 5)) (some ⟨wr.heap.size, 0, none⟩) (deepB true)) := Lib.hid (by
        obtain ⟨A, c, e, hc, hC⟩ := (RB.lit (w0 := w) (W := wr) (deepB true) HB.out.size (by simp [deepB, maxLen])).reads
        injection e with e1 e2 e3
        subst e1
        exact hC)
      have hwj : IntKind.i64.wrap ((j : Int) + 1) = (j : Int) + 1 := IntWalk.i64_in _ (by have := HK.out; omega)
      go_wp2_with (at_builtin; refine appN (w0 := w) (.tmp 21) (.tmp 22) rfl rfl u6 (deepL true j) (deepB true) (some ⟨wr.heap.size, 0, none⟩) 9 rfl rfl (HR.out.below ((Below.refl _ wr).alloc (Nat.le_refl _) _)) HCL.out (HB.out.alloc HB.out.size _) (by rw [deepL_len]; have := HK.out; have := HJ.out; simp [deepB]; omega) ?_; intro v1 w4 h4 hb4)
      go_roundw
      case rel => exact ⟨j + 1, by go_num, by have := HJ.out; omega, h4, hb4⟩
      case measure => have := HJ.out; simp [intOf]; omega
    · have : j = k := by omega
      subst this
      clear hlt hj
      obtain ⟨g, cap, cur, hv, hcap, hcur, hcs, hg⟩ := RB.opens HR.out (by rw [deepL_len]; have := HK.out; omega)
      rw [deepL_len] at hv hcap
      obtain ⟨m, hm⟩ : ∃ m, 9 * j = m + 4 := ⟨9 * j - 4, by have := HK.out; omega⟩
      rw [hm] at hv hcap
      subst hv
      have HM := Lib.hid (show m + 4 = 9 * j ∧ m < 400 by have := HK.out; omega)
      have x0 : wr.cell? ⟨g, m, none⟩ = some cur[m] := hcur.cell m (Array.getElem?_eq_getElem (by omega))
      obtain ⟨u0, hu0⟩ : ∃ u, cur[m] = u := ⟨_, rfl⟩
      rw [hu0] at x0
      have fz := hcur.froz m
      have hsub : IntKind.i64.wrap (((m : Int) + 4) - 4) = (m : Int) := by rw [IntWalk.i64_in _ (by have := HM.out; omega)]; omega
      have hsub2 : (m : Int) + 4 - 4 = m := by omega
      have hwm : IntKind.i64.wrap (m : Int) = m := IntWalk.i64_in _ (by have := HM.out; omega)
      have hlt1 : (m : Int) < (m : Int) + 4 := by omega
      have hlt2 : m < m + 4 := by omega
      have HRS : Hid (RB w (wr.setCell ⟨g, m, none⟩ (.int .u8 0)) (.slice (some ⟨g, 0, none⟩) (m + 4) cap) (deepS true j)) := Lib.hid (by
        have h9 : RB w wr (.slice (some ⟨g, 0, none⟩) (deepL true j).length cap) (deepL true j) := by rw [deepL_len, ← HM.out.1]; exact HR.out
        have h8 := (Kd.R_put (enc := Value.int .u8) h9 (m : Int) 0).1
        rw [deepL_len, ← HM.out.1, Int.toNat_natCast] at h8
        unfold deepS
        rw [← HM.out.1]
        exact h8)
      have HBS := Lib.hid (below_set (i := m) HB.out hg (.int .u8 0))
      clear hm hcap hcur hcs hu0
      by_cases hkk : j > 16
      · have hk1 : (16 : Int) < j := by omega
        have HE : Hid ((readS (deepS true j)).2 = 10) := Lib.hid (by rw [HLAW.out, if_pos hkk])
        clear hkk
        go_upto_region 12 with (fail)
        obtain ⟨w5, hW⟩ : ∃ X, wr.setCell ⟨g, m, none⟩ (.int .u8 0) = X := ⟨_, rfl⟩
        rw [hW] at HRS HBS ⊢
        clear hW x0 fz
        have HRD : Hid (∀ (e : Int), (readS (deepS true j)).2 = e → Calls Tryd.prog 44 #[.slice (some ⟨g, 0, none⟩) (m + 4) cap] w5 fun ex w' => ∃ k0 B1 m1 e1 B2 m2 e2, ex = .returned (.tuple #[.agg #[.int .i64 k0, .slice B1 m1 e1, .slice B2 m2 e2], .int .i64 e]) ∧ Hid (Bel w5 w')) := Lib.hid (fun e he => by
          obtain ⟨A, c, ev, hc, hC⟩ := HRS.out.reads
          have hl := deepS_len true j
          rw [hl, ← HM.out.1] at ev
          injection ev with e1 e2 e3
          subst e1 e3
          have := read_calls w5 (some ⟨g, 0, none⟩) cap (deepS true j) hC (bytes_deepS true j) hc (by rw [hl]; have := HK.out; omega) (HGL.out.below HBS.out HGL.out.2.2)
          rw [hl, ← HM.out.1, he] at this
          refine this.mono ?_
          rintro ex w' ⟨k0, B1, m1, e1, B2, m2, e2, h1, h2, h3⟩
          exact ⟨k0, B1, m1, e1, B2, m2, e2, h1, h3⟩)
        go_wp2_with (first
          | (go_at_call 37; refine (lives14 _ (Nat.le_trans HGL.out.2.2 BF.out.size) (HGL.out.1.bel BF.out) (HGL.out.2.1.below HGL.out.2.2 BF.out)).mono ?_; rintro e w8 ⟨rfl, b8⟩; have B8 := Lib.hid b8; clear b8)
          | (go_at_call 44; refine (HRD.out _ HE.out).mono ?_; rintro e w6 ⟨k0, B1, m1, e1, B2, m2, e2, rfl, b6⟩; have BF : Hid (Bel w (w6.alloc (.cells #[.int .i64 k0, .slice B1 m1 e1, .slice B2 m2 e2] 25))) := Lib.hid (bthen (bthen HBS.out b6.out) ((Bel.refl _).alloc (Nat.le_refl _) _))))
        go_ret
        exact ⟨rfl, bthen BF.out B8.out⟩
      · have hk1 : ¬ (16 : Int) < j := by omega
        have HE : Hid ((readS (deepS true j)).2 = 0) := Lib.hid (by rw [HLAW.out, if_neg hkk])
        clear hkk
        go_upto_region 12 with (fail)
        obtain ⟨w5, hW⟩ : ∃ X, wr.setCell ⟨g, m, none⟩ (.int .u8 0) = X := ⟨_, rfl⟩
        rw [hW] at HRS HBS ⊢
        clear hW x0 fz
        have HRD : Hid (∀ (e : Int), (readS (deepS true j)).2 = e → Calls Tryd.prog 44 #[.slice (some ⟨g, 0, none⟩) (m + 4) cap] w5 fun ex w' => ∃ k0 B1 m1 e1 B2 m2 e2, ex = .returned (.tuple #[.agg #[.int .i64 k0, .slice B1 m1 e1, .slice B2 m2 e2], .int .i64 e]) ∧ Hid (Bel w5 w')) := Lib.hid (fun e he => by
          obtain ⟨A, c, ev, hc, hC⟩ := HRS.out.reads
          have hl := deepS_len true j
          rw [hl, ← HM.out.1] at ev
          injection ev with e1 e2 e3
          subst e1 e3
          have := read_calls w5 (some ⟨g, 0, none⟩) cap (deepS true j) hC (bytes_deepS true j) hc (by rw [hl]; have := HK.out; omega) (HGL.out.below HBS.out HGL.out.2.2)
          rw [hl, ← HM.out.1, he] at this
          refine this.mono ?_
          rintro ex w' ⟨k0, B1, m1, e1, B2, m2, e2, h1, h2, h3⟩
          exact ⟨k0, B1, m1, e1, B2, m2, e2, h1, h3⟩)
        go_wp2_with (first
          | (go_at_call 37; refine (lives14 _ (Nat.le_trans HGL.out.2.2 BF.out.size) (HGL.out.1.bel BF.out) (HGL.out.2.1.below HGL.out.2.2 BF.out)).mono ?_; rintro e w8 ⟨rfl, b8⟩; have B8 := Lib.hid b8; clear b8)
          | (go_at_call 44; refine (HRD.out _ HE.out).mono ?_; rintro e w6 ⟨k0, B1, m1, e1, B2, m2, e2, rfl, b6⟩; have BF : Hid (Bel w (w6.alloc (.cells #[.int .i64 k0, .slice B1 m1 e1, .slice B2 m2 e2] 25))) := Lib.hid (bthen (bthen HBS.out b6.out) ((Bel.refl _).alloc (Nat.le_refl _) _))))
        go_ret
        exact ⟨rfl, bthen BF.out B8.out⟩
set_option maxHeartbeats 4000000 in
set_option maxRecDepth 100000 in
theorem deep_false (x : Int) (w : World) (hx : 0 ≤ x ∧ x < 256) (hGl : Gl w) :
    Calls Tryd.prog 10 #[.int .u8 x, .bool false] w fun e w' => e = .returned (.bool true) ∧ Bel w w' := by
  have HGL := Lib.hid hGl
  obtain ⟨k, hk⟩ : ∃ k : Nat, (k : Int) = 1 + x % 40 := ⟨(1 + x % 40).toNat, by omega⟩
  have HK := Lib.hid (show 1 ≤ k ∧ k ≤ 40 from ⟨by omega, by omega⟩)
  obtain ⟨r, hr⟩ : ∃ r, x % 40 = r := ⟨_, rfl⟩
  have ht : x.tmod 40 = r := by rw [← hr]; exact Int.tmod_eq_emod_of_nonneg hx.1
  have hw0 : IntKind.u8.wrap r = r := by rw [IntKind.wrap_u8]; omega
  have hw1 : IntKind.i64.wrap r = r := IntWalk.i64_in _ (by omega)
  have hw2 : IntKind.i64.wrap (1 + r) = k := by rw [IntWalk.i64_in _ (by omega)]; omega
  have HLAW := Lib.hid (MRead.deep_law k HK.out.1 HK.out.2 false)
  clear hGl hk hr hx
  go_enter Tryd.func10, Tryd.ntmps10
  go_wp2
  go_loopw [6, 7] (fun bv i wr => ∃ j : Nat, i = .int .i64 j ∧ j ≤ k ∧ Hid (RB w wr bv (deepL false j)) ∧ Hid (Bel w wr)) (fun _ i _ => k - (intOf i).toNat)
  case atStart => exact ⟨0, rfl, by omega, Lib.hid (RB.nil _ _), Lib.hid (Bel.refl _)⟩
  case round =>
    obtain ⟨j, rfl, hj, HR, HB⟩ := hrel
    by_cases hlt : j < k
    · have HJ := Lib.hid hlt
      have HCL : Hid (CB (wr.alloc (.cells #[.int .u8 0, .int .u8 0, .int .u8 0, .int .u8 0, .int .u8 7, .int .u8 0, .int .u8 0, .int .u8 0, .int .u8 1] 5)) (some ⟨wr.heap.size, 0, none⟩) (deepB false)) := Lib.hid (by
        obtain ⟨A, c, e, hc, hC⟩ := (RB.lit (w0 := w) (W := wr) (deepB false) HB.out.size (by simp [deepB, maxLen])).reads
        injection e with e1 e2 e3
        subst e1
        exact hC)
      have hwj : IntKind.i64.wrap ((j : Int) + 1) = (j : Int) + 1 := IntWalk.i64_in _ (by have := HK.out; omega)
      go_wp2_with (at_builtin; refine appN (w0 := w) (.tmp 24) (.tmp 25) rfl rfl u6 (deepL false j) (deepB false) (some ⟨wr.heap.size, 0, none⟩) 9 rfl rfl (HR.out.below ((Below.refl _ wr).alloc (Nat.le_refl _) _)) HCL.out (HB.out.alloc HB.out.size _) (by rw [deepL_len]; have := HK.out; have := HJ.out; simp [deepB]; omega) ?_; intro v1 w4 h4 hb4)
      go_roundw
      case rel => exact ⟨j + 1, by go_num, by have := HJ.out; omega, h4, hb4⟩
      case measure => have := HJ.out; simp [intOf]; omega
    · have : j = k := by omega
      subst this
      clear hlt hj
      obtain ⟨g, cap, cur, hv, hcap, hcur, hcs, hg⟩ := RB.opens HR.out (by rw [deepL_len]; have := HK.out; omega)
      rw [deepL_len] at hv hcap
      obtain ⟨m, hm⟩ : ∃ m, 9 * j = m + 1 := ⟨9 * j - 1, by have := HK.out; omega⟩
      rw [hm] at hv hcap
      subst hv
      have HM := Lib.hid (show m + 1 = 9 * j ∧ m < 400 by have := HK.out; omega)
      have x0 : wr.cell? ⟨g, m, none⟩ = some cur[m] := hcur.cell m (Array.getElem?_eq_getElem (by omega))
      obtain ⟨u0, hu0⟩ : ∃ u, cur[m] = u := ⟨_, rfl⟩
      rw [hu0] at x0
      have fz := hcur.froz m
      have hsub : IntKind.i64.wrap (((m : Int) + 1) - 1) = (m : Int) := by rw [IntWalk.i64_in _ (by have := HM.out; omega)]; omega
      have hsub2 : (m : Int) + 1 - 1 = m := by omega
      have hwm : IntKind.i64.wrap (m : Int) = m := IntWalk.i64_in _ (by have := HM.out; omega)
      have hlt1 : (m : Int) < (m : Int) + 1 := by omega
      have hlt2 : m < m + 1 := by omega
      have HRS : Hid (RB w (wr.setCell ⟨g, m, none⟩ (.int .u8 0)) (.slice (some ⟨g, 0, none⟩) (m + 1) cap) (deepS false j)) := Lib.hid (by
        have h9 : RB w wr (.slice (some ⟨g, 0, none⟩) (deepL false j).length cap) (deepL false j) := by rw [deepL_len, ← HM.out.1]; exact HR.out
        have h8 := (Kd.R_put (enc := Value.int .u8) h9 (m : Int) 0).1
        rw [deepL_len, ← HM.out.1, Int.toNat_natCast] at h8
        unfold deepS
        rw [← HM.out.1]
        exact h8)
      have HBS := Lib.hid (below_set (i := m) HB.out hg (.int .u8 0))
      clear hm hcap hcur hcs hu0
      by_cases hkk : j > 16
      · have hk1 : (16 : Int) < j := by omega
        have HE : Hid ((readS (deepS false j)).2 = 10) := Lib.hid (by rw [HLAW.out, if_pos hkk])
        clear hkk
        go_upto_region 12 with (fail)
        obtain ⟨w5, hW⟩ : ∃ X, wr.setCell ⟨g, m, none⟩ (.int .u8 0) = X := ⟨_, rfl⟩
        rw [hW] at HRS HBS ⊢
        clear hW x0 fz
        have HRD : Hid (∀ (e : Int), (readS (deepS false j)).2 = e → Calls Tryd.prog 44 #[.slice (some ⟨g, 0, none⟩) (m + 1) cap] w5 fun ex w' => ∃ k0 B1 m1 e1 B2 m2 e2, ex = .returned (.tuple #[.agg #[.int .i64 k0, .slice B1 m1 e1, .slice B2 m2 e2], .int .i64 e]) ∧ Hid (Bel w5 w')) := Lib.hid (fun e he => by
          obtain ⟨A, c, ev, hc, hC⟩ := HRS.out.reads
          have hl := deepS_len false j
          rw [hl, ← HM.out.1] at ev
          injection ev with e1 e2 e3
          subst e1 e3
          have := read_calls w5 (some ⟨g, 0, none⟩) cap (deepS false j) hC (bytes_deepS false j) hc (by rw [hl]; have := HK.out; omega) (HGL.out.below HBS.out HGL.out.2.2)
          rw [hl, ← HM.out.1, he] at this
          refine this.mono ?_
          rintro ex w' ⟨k0, B1, m1, e1, B2, m2, e2, h1, h2, h3⟩
          exact ⟨k0, B1, m1, e1, B2, m2, e2, h1, h3⟩)
        go_wp2_with (first
          | (go_at_call 37; refine (lives14 _ (Nat.le_trans HGL.out.2.2 BF.out.size) (HGL.out.1.bel BF.out) (HGL.out.2.1.below HGL.out.2.2 BF.out)).mono ?_; rintro e w8 ⟨rfl, b8⟩; have B8 := Lib.hid b8; clear b8)
          | (go_at_call 44; refine (HRD.out _ HE.out).mono ?_; rintro e w6 ⟨k0, B1, m1, e1, B2, m2, e2, rfl, b6⟩; have BF : Hid (Bel w (w6.alloc (.cells #[.int .i64 k0, .slice B1 m1 e1, .slice B2 m2 e2] 25))) := Lib.hid (bthen (bthen HBS.out b6.out) ((Bel.refl _).alloc (Nat.le_refl _) _))))
        go_ret
        exact ⟨rfl, bthen BF.out B8.out⟩
      · have hk1 : ¬ (16 : Int) < j := by omega
        have HE : Hid ((readS (deepS false j)).2 = 0) := Lib.hid (by rw [HLAW.out, if_neg hkk])
        clear hkk
        go_upto_region 12 with (fail)
        obtain ⟨w5, hW⟩ : ∃ X, wr.setCell ⟨g, m, none⟩ (.int .u8 0) = X := ⟨_, rfl⟩
        rw [hW] at HRS HBS ⊢
        clear hW x0 fz
        have HRD : Hid (∀ (e : Int), (readS (deepS false j)).2 = e → Calls Tryd.prog 44 #[.slice (some ⟨g, 0, none⟩) (m + 1) cap] w5 fun ex w' => ∃ k0 B1 m1 e1 B2 m2 e2, ex = .returned (.tuple #[.agg #[.int .i64 k0, .slice B1 m1 e1, .slice B2 m2 e2], .int .i64 e]) ∧ Hid (Bel w5 w')) := Lib.hid (fun e he => by
          obtain ⟨A, c, ev, hc, hC⟩ := HRS.out.reads
          have hl := deepS_len false j
          rw [hl, ← HM.out.1] at ev
          injection ev with e1 e2 e3
          subst e1 e3
          have := read_calls w5 (some ⟨g, 0, none⟩) cap (deepS false j) hC (bytes_deepS false j) hc (by rw [hl]; have := HK.out; omega) (HGL.out.below HBS.out HGL.out.2.2)
          rw [hl, ← HM.out.1, he] at this
          refine this.mono ?_
          rintro ex w' ⟨k0, B1, m1, e1, B2, m2, e2, h1, h2, h3⟩
          exact ⟨k0, B1, m1, e1, B2, m2, e2, h1, h3⟩)
        go_wp2_with (first
          | (go_at_call 37; refine (lives14 _ (Nat.le_trans HGL.out.2.2 BF.out.size) (HGL.out.1.bel BF.out) (HGL.out.2.1.below HGL.out.2.2 BF.out)).mono ?_; rintro e w8 ⟨rfl, b8⟩; have B8 := Lib.hid b8; clear b8)
          | (go_at_call 44; refine (HRD.out _ HE.out).mono ?_; rintro e w6 ⟨k0, B1, m1, e1, B2, m2, e2, rfl, b6⟩; have BF : Hid (Bel w (w6.alloc (.cells #[.int .i64 k0, .slice B1 m1 e1, .slice B2 m2 e2] 25))) := Lib.hid (bthen (bthen HBS.out b6.out) ((Bel.refl _).alloc (Nat.le_refl _) _))))
        go_ret
        exact ⟨rfl, bthen BF.out B8.out⟩
theorem wkbDeep_calls (x : Int) (o : Bool) (w : World) (hx : 0 ≤ x ∧ x < 256) (hs : 2 ≤ w.heap.size) (hF : FormsAt w) (hN : NowAt w) :
    Calls Tryd.prog 10 #[.int .u8 x, .bool o] w fun e w' => e = .returned (.bool true) ∧ Bel w w' := by
  cases o
  · exact deep_false x w hx ⟨hF, hN, hs⟩
  · exact deep_true x w hx ⟨hF, hN, hs⟩

end Go.Proofs.YtfknhpgelleenaaDoor.K
