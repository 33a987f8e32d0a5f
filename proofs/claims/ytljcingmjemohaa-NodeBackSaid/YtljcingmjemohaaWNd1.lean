/- The box of a node's entries. -/
import Derived.Test.YtljcingmjemohaaKB
import Derived.Handy
import Derived.Test.YtljcingmjemohaaMNd
import Derived.Test.YtljcingmjemohaaKX1
import Derived.Test.YtljcingmjemohaaWEn
namespace Go.Proofs.Ytljcingmjemohaa.K
open Go Go.RowKit Go.Proofs.YtljcingmjemohaaW.PrintWords Go.Proofs.YtljcingmjemohaaW.PrintLast Go.Proofs.YtljcingmjemohaaW.PrintMore
set_option linter.unusedVariables false
set_option linter.unusedSimpArgs false
open Go.Proofs.Ytljcingmjemohaa.MBox (Bx noneB)
open Go.Proofs.Ytljcingmjemohaa.MChoose (En En0)
open Go.Proofs.Ytljcingmjemohaa.MNd
theorem Blk.cells6 {W : World} {g t : Nat} {a b c d e f : Value} (hb : Blk W g #[a, b, c, d, e, f] t) : W.cell? ⟨g, 0, none⟩ = some a ∧ W.cell? ⟨g, 1, none⟩ = some b ∧ W.cell? ⟨g, 2, none⟩ = some c ∧ W.cell? ⟨g, 3, none⟩ = some d ∧ W.cell? ⟨g, 4, none⟩ = some e ∧ W.cell? ⟨g, 5, none⟩ = some f :=
  ⟨hb.cell 0 rfl, hb.cell 1 rfl, hb.cell 2 rfl, hb.cell 3 rfl, hb.cell 4 rfl, hb.cell 5 rfl⟩
theorem none_lit (w : World) : Calls Try.prog 48 #[] w fun e w' => e = .returned (.agg #[.bool true, .int .i64 0, .int .i64 0, .int .i64 0, .int .i64 0]) ∧ Bel w w' := none_calls w
theorem Blk.set5_ne {W : World} {g j t : Nat} {cs : Array Value} {a b c d e : Value} (h : Blk W g cs t) (hj : g ≠ j) : Blk (((((W.setCell ⟨j, 0, none⟩ a).setCell ⟨j, 1, none⟩ b).setCell ⟨j, 2, none⟩ c).setCell ⟨j, 3, none⟩ d).setCell ⟨j, 4, none⟩ e) g cs t :=
  ((((h.set_ne hj _).set_ne hj _).set_ne hj _).set_ne hj _).set_ne hj _
set_option maxHeartbeats 4000000 in
set_option maxRecDepth 100000 in
theorem bound_calls (w : World) (A : Option Addr) (c : Nat) (l : List En) (h : CE w A l) (hc : l.length ≤ c) :
    Calls Try.prog 16 #[.slice A l.length c] w fun e w' => e = .returned (.agg #[.bool (bnd l).no, .int .i64 (bnd l).lx, .int .i64 (bnd l).ly, .int .i64 (bnd l).hx, .int .i64 (bnd l).hy]) ∧ Bel w w' := by
  have HC := Lib.hid h
  have HU := Lib.hid union_calls
  have hl63 := h.len
  have HL := Lib.hid h.len
  have Z0 := Blk.new w #[.bool false, .int .i64 0, .int .i64 0, .int .i64 0, .int .i64 0] 38
  have B0 : Hid (Bel w (w.alloc (.cells #[.bool false, .int .i64 0, .int .i64 0, .int .i64 0, .int .i64 0] 38))) := Lib.hid ((Bel.refl w).alloc (Nat.le_refl _) _)
  clear h
  go_enter Try.func16, Try.ntmps16
  go_upto_region 2 with (go_at_call 48; refine (none_lit _).mono ?_; rintro e w2 ⟨rfl, hb2⟩)
  have Z1 := (Blk.bel Z0 hb2).alloc (.cells #[.bool true, .int .i64 0, .int .i64 0, .int .i64 0, .int .i64 0] 38)
  have N1 := Blk.new w2 #[.bool true, .int .i64 0, .int .i64 0, .int .i64 0, .int .i64 0] 38
  have B1 : Hid (Bel w (w2.alloc (.cells #[.bool true, .int .i64 0, .int .i64 0, .int .i64 0, .int .i64 0] 38))) := Lib.hid ((bthen B0.out hb2).alloc (bthen B0.out hb2).size _)
  obtain ⟨W, hW⟩ : ∃ Y, w2.alloc (.cells #[.bool true, .int .i64 0, .int .i64 0, .int .i64 0, .int .i64 0] 38) = Y := ⟨_, rfl⟩
  rw [hW] at Z1 N1 B1 ⊢
  clear hW
  have hlt := Blk.lt (Blk.bel Z0 hb2)
  obtain ⟨g1, hg1⟩ : ∃ x, w2.heap.size = x := ⟨_, rfl⟩
  rw [hg1] at N1 hlt ⊢
  obtain ⟨g0, hg0⟩ : ∃ x, w.heap.size = x := ⟨_, rfl⟩
  rw [hg0] at Z1 hlt ⊢
  have HG : Hid (w.heap.size = g0 ∧ g0 < g1) := Lib.hid ⟨hg0, hlt⟩
  clear hg0 hg1 hlt hb2 Z0
  have HZ := Lib.hid Z1
  have HN := Lib.hid N1
  clear Z1 N1
  go_wp2
  go_loopw [9] (fun i wr => ∃ (k : Nat), i = .int .i64 k ∧ k ≤ l.length ∧ Hid (Below w.heap.size w wr) ∧ Hid (Blk wr g1 #[.bool (bnd (l.take k)).no, .int .i64 (bnd (l.take k)).lx, .int .i64 (bnd (l.take k)).ly, .int .i64 (bnd (l.take k)).hx, .int .i64 (bnd (l.take k)).hy] 38) ∧ Hid (Blk wr g0 #[.bool false, .int .i64 0, .int .i64 0, .int .i64 0, .int .i64 0] 38)) (fun i _ => l.length - (intOf i).toNat)
  case atStart => exact ⟨0, rfl, by omega, B1, Lib.hid (by rw [List.take_zero]; exact HN.out), HZ⟩
  case round =>
    obtain ⟨k, rfl, hk, HBk, HO, HR⟩ := hrel
    by_cases hlt : k < l.length
    · obtain ⟨b, off, e8, hbB, x0, x1, x2, x3, x4, x5⟩ := en_at (HC.out.below HBk.out) k hlt
      subst e8
      have hsn := bnd_take hlt
      obtain ⟨x, hx⟩ : ∃ x, l[k] = x := ⟨_, rfl⟩
      rw [hx] at x0 x1 x2 x3 x4 x5 hsn
      obtain ⟨b0, hb0⟩ : ∃ b, bnd (l.take k) = b := ⟨_, rfl⟩
      obtain ⟨b9, hb9⟩ : ∃ b, bnd (l.take (k + 1)) = b := ⟨_, rfl⟩
      rw [hb0] at HO hsn
      rw [hb9] at hsn
      have HUU : Hid (∀ w, Calls Try.prog 49 #[.agg #[.bool b0.no, .int .i64 b0.lx, .int .i64 b0.ly, .int .i64 b0.hx, .int .i64 b0.hy], .agg #[.bool x.bx.no, .int .i64 x.bx.lx, .int .i64 x.bx.ly, .int .i64 x.bx.hx, .int .i64 x.bx.hy]] w fun e w' => e = .returned (.agg #[.bool b9.no, .int .i64 b9.lx, .int .i64 b9.ly, .int .i64 b9.hx, .int .i64 b9.hy]) ∧ Bel w w') := Lib.hid (fun w => by have := HU.out b0 x.bx w; rw [← hsn] at this; exact this)
      have HB9 := Lib.hid hb9
      clear hx hsn hb0 hb9
      have P := Blk.new wr #[.int .i64 x.id, .bool x.bx.no, .int .i64 x.bx.lx, .int .i64 x.bx.ly, .int .i64 x.bx.hx, .int .i64 x.bx.hy] 57
      have HOp := Lib.hid (HO.out.alloc (.cells #[.int .i64 x.id, .bool x.bx.no, .int .i64 x.bx.lx, .int .i64 x.bx.ly, .int .i64 x.bx.hx, .int .i64 x.bx.hy] 57))
      have HRp := Lib.hid (HR.out.alloc (.cells #[.int .i64 x.id, .bool x.bx.no, .int .i64 x.bx.lx, .int .i64 x.bx.ly, .int .i64 x.bx.hx, .int .i64 x.bx.hy] 57))
      have HBp := Lib.hid (HBk.out.alloc HBk.out.size (.cells #[.int .i64 x.id, .bool x.bx.no, .int .i64 x.bx.lx, .int .i64 x.bx.ly, .int .i64 x.bx.hx, .int .i64 x.bx.hy] 57))
      clear HO HR HBk
      go_upto_region 5 with (fail)
      obtain ⟨w5, hW⟩ : ∃ Y, wr.alloc (.cells #[.int .i64 x.id, .bool x.bx.no, .int .i64 x.bx.lx, .int .i64 x.bx.ly, .int .i64 x.bx.hx, .int .i64 x.bx.hy] 57) = Y := ⟨_, rfl⟩
      rw [hW] at P HOp HRp HBp ⊢
      obtain ⟨gp, hg⟩ : ∃ g, wr.heap.size = g := ⟨_, rfl⟩
      rw [hg] at P ⊢
      clear hW hg x0 x1 x2 x3 x4 x5 hbB
      obtain ⟨p0, p1, p2, p3, p4, p5⟩ := Blk.cells6 P
      obtain ⟨o0, o1, o2, o3, o4⟩ := Blk.cells5 HOp.out
      go_wp2_with (go_at_call 49; refine (HUU.out _).mono ?_; rintro e w8 ⟨rfl, hb8⟩; have O8 := Lib.hid (Blk.bel HOp.out hb8); have R8 := Lib.hid (Blk.bel HRp.out hb8); have HB8 := Lib.hid (bthen HBp.out hb8); clear hb8 o0 o1 o2 o3 o4; obtain ⟨o0, o1, o2, o3, o4⟩ := Blk.cells5 O8.out; have f0 := O8.out.froz 0; have f1 := O8.out.froz 1; have f2 := O8.out.froz 2; have f3 := O8.out.froz 3; have f4 := O8.out.froz 4)
      go_roundw
      case rel => exact ⟨k + 1, by go_num, by omega, Lib.hid (below_set5 HB8.out (by have := HG.out; omega) _ _ _ _ _), Lib.hid (by rw [HB9.out]; exact Blk.set5 O8.out), Lib.hid (Blk.set5_ne R8.out (by have := HG.out; omega))⟩
      case measure => (simp [intOf] <;> omega)
    · have : k = l.length := by omega
      subst this
      obtain ⟨b0, hb0⟩ : ∃ b, bnd (l.take l.length) = b := ⟨_, rfl⟩
      have HF : Hid (bnd l = b0) := Lib.hid (by rw [← hb0, List.take_length])
      rw [hb0] at HO
      clear hlt hk hb0
      obtain ⟨o0, o1, o2, o3, o4⟩ := Blk.cells5 HO.out
      obtain ⟨r0, r1, r2, r3, r4⟩ := Blk.cells5 HR.out
      have f0 := HR.out.froz 0; have f1 := HR.out.froz 1; have f2 := HR.out.froz 2; have f3 := HR.out.froz 3; have f4 := HR.out.froz 4
      have R9 := Lib.hid (Blk.set5 HR.out (x' := .bool b0.no) (y' := .int .i64 b0.lx) (z' := .int .i64 b0.ly) (p' := .int .i64 b0.hx) (q' := .int .i64 b0.hy))
      have B9 := Lib.hid (below_set5 HBk.out (show w.heap.size ≤ g0 by have := HG.out; omega) (.bool b0.no) (.int .i64 b0.lx) (.int .i64 b0.ly) (.int .i64 b0.hx) (.int .i64 b0.hy))
      go_wp2
      refine bodyPost_ret (v := .agg #[.bool b0.no, .int .i64 b0.lx, .int .i64 b0.ly, .int .i64 b0.hx, .int .i64 b0.hy]) ?_ rfl ⟨by rw [HF.out], B9.out⟩
      obtain ⟨q0, q1, q2, q3, q4⟩ := Blk.cells5 R9.out
      simp [results, Try.results16, go_sem, q0, q1, q2, q3, q4]
set_option maxHeartbeats 4000000 in
set_option maxRecDepth 100000 in
theorem rbound_calls (w : World) (A : Option Addr) (c : Nat) (l : List En) (h : CE w A l) (hc : l.length ≤ c) :
    Calls Try.prog 17 #[.slice A l.length c] w fun e w' => e = .returned (.agg #[.bool (bnd l).no, .int .i64 (bnd l).lx, .int .i64 (bnd l).ly, .int .i64 (bnd l).hx, .int .i64 (bnd l).hy]) ∧ Bel w w' := by
  have HC := Lib.hid h
  have HU := Lib.hid refUnion_calls
  have hl63 := h.len
  have HL := Lib.hid h.len
  have Z0 := Blk.new w #[.bool false, .int .i64 0, .int .i64 0, .int .i64 0, .int .i64 0] 38
  have B0 : Hid (Bel w (w.alloc (.cells #[.bool false, .int .i64 0, .int .i64 0, .int .i64 0, .int .i64 0] 38))) := Lib.hid ((Bel.refl w).alloc (Nat.le_refl _) _)
  clear h
  go_enter Try.func17, Try.ntmps17
  go_upto_region 2 with (fail)
  have Z1 := Z0.alloc (.cells #[.bool true, .int .i64 0, .int .i64 0, .int .i64 0, .int .i64 0] 38)
  have N1 := Blk.new_at (W := w.alloc (.cells #[.bool false, .int .i64 0, .int .i64 0, .int .i64 0, .int .i64 0] 38)) (g := w.heap.size + 1) (by simp) #[.bool true, .int .i64 0, .int .i64 0, .int .i64 0, .int .i64 0] 38
  have B1 : Hid (Bel w ((w.alloc (.cells #[.bool false, .int .i64 0, .int .i64 0, .int .i64 0, .int .i64 0] 38)).alloc (.cells #[.bool true, .int .i64 0, .int .i64 0, .int .i64 0, .int .i64 0] 38))) := Lib.hid (B0.out.alloc B0.out.size _)
  obtain ⟨W, hW⟩ : ∃ Y, (w.alloc (.cells #[.bool false, .int .i64 0, .int .i64 0, .int .i64 0, .int .i64 0] 38)).alloc (.cells #[.bool true, .int .i64 0, .int .i64 0, .int .i64 0, .int .i64 0] 38) = Y := ⟨_, rfl⟩
  rw [hW] at Z1 N1 B1 ⊢
  clear hW
  obtain ⟨g0, hg0⟩ : ∃ x, w.heap.size = x := ⟨_, rfl⟩
  rw [hg0] at Z1 N1 ⊢
  obtain ⟨g1, hg1⟩ : ∃ x, g0 + 1 = x := ⟨_, rfl⟩
  rw [hg1] at N1 ⊢
  have HG : Hid (w.heap.size = g0 ∧ g0 < g1) := Lib.hid ⟨hg0, by omega⟩
  clear hg0 hg1 Z0
  have HZ := Lib.hid Z1
  have HN := Lib.hid N1
  clear Z1 N1
  go_wp2
  go_loopw [9] (fun i wr => ∃ (k : Nat), i = .int .i64 k ∧ k ≤ l.length ∧ Hid (Below w.heap.size w wr) ∧ Hid (Blk wr g1 #[.bool (bnd (l.take k)).no, .int .i64 (bnd (l.take k)).lx, .int .i64 (bnd (l.take k)).ly, .int .i64 (bnd (l.take k)).hx, .int .i64 (bnd (l.take k)).hy] 38) ∧ Hid (Blk wr g0 #[.bool false, .int .i64 0, .int .i64 0, .int .i64 0, .int .i64 0] 38)) (fun i _ => l.length - (intOf i).toNat)
  case atStart => exact ⟨0, rfl, by omega, B1, Lib.hid (by rw [List.take_zero]; exact HN.out), HZ⟩
  case round =>
    obtain ⟨k, rfl, hk, HBk, HO, HR⟩ := hrel
    by_cases hlt : k < l.length
    · obtain ⟨b, off, e8, hbB, x0, x1, x2, x3, x4, x5⟩ := en_at (HC.out.below HBk.out) k hlt
      subst e8
      have hsn := bnd_take hlt
      obtain ⟨x, hx⟩ : ∃ x, l[k] = x := ⟨_, rfl⟩
      rw [hx] at x0 x1 x2 x3 x4 x5 hsn
      obtain ⟨b0, hb0⟩ : ∃ b, bnd (l.take k) = b := ⟨_, rfl⟩
      obtain ⟨b9, hb9⟩ : ∃ b, bnd (l.take (k + 1)) = b := ⟨_, rfl⟩
      rw [hb0] at HO hsn
      rw [hb9] at hsn
      have HUU : Hid (∀ w, Calls Try.prog 50 #[.agg #[.bool b0.no, .int .i64 b0.lx, .int .i64 b0.ly, .int .i64 b0.hx, .int .i64 b0.hy], .agg #[.bool x.bx.no, .int .i64 x.bx.lx, .int .i64 x.bx.ly, .int .i64 x.bx.hx, .int .i64 x.bx.hy]] w fun e w' => e = .returned (.agg #[.bool b9.no, .int .i64 b9.lx, .int .i64 b9.ly, .int .i64 b9.hx, .int .i64 b9.hy]) ∧ Bel w w') := Lib.hid (fun w => by have := HU.out b0 x.bx w; rw [← hsn] at this; exact this)
      have HB9 := Lib.hid hb9
      clear hx hsn hb0 hb9
      have P := Blk.new wr #[.int .i64 x.id, .bool x.bx.no, .int .i64 x.bx.lx, .int .i64 x.bx.ly, .int .i64 x.bx.hx, .int .i64 x.bx.hy] 85
      have HOp := Lib.hid (HO.out.alloc (.cells #[.int .i64 x.id, .bool x.bx.no, .int .i64 x.bx.lx, .int .i64 x.bx.ly, .int .i64 x.bx.hx, .int .i64 x.bx.hy] 85))
      have HRp := Lib.hid (HR.out.alloc (.cells #[.int .i64 x.id, .bool x.bx.no, .int .i64 x.bx.lx, .int .i64 x.bx.ly, .int .i64 x.bx.hx, .int .i64 x.bx.hy] 85))
      have HBp := Lib.hid (HBk.out.alloc HBk.out.size (.cells #[.int .i64 x.id, .bool x.bx.no, .int .i64 x.bx.lx, .int .i64 x.bx.ly, .int .i64 x.bx.hx, .int .i64 x.bx.hy] 85))
      clear HO HR HBk
      go_upto_region 5 with (fail)
      obtain ⟨w5, hW⟩ : ∃ Y, wr.alloc (.cells #[.int .i64 x.id, .bool x.bx.no, .int .i64 x.bx.lx, .int .i64 x.bx.ly, .int .i64 x.bx.hx, .int .i64 x.bx.hy] 85) = Y := ⟨_, rfl⟩
      rw [hW] at P HOp HRp HBp ⊢
      obtain ⟨gp, hg⟩ : ∃ g, wr.heap.size = g := ⟨_, rfl⟩
      rw [hg] at P ⊢
      clear hW hg x0 x1 x2 x3 x4 x5 hbB
      obtain ⟨p0, p1, p2, p3, p4, p5⟩ := Blk.cells6 P
      obtain ⟨o0, o1, o2, o3, o4⟩ := Blk.cells5 HOp.out
      go_wp2_with (go_at_call 50; refine (HUU.out _).mono ?_; rintro e w8 ⟨rfl, hb8⟩; have O8 := Lib.hid (Blk.bel HOp.out hb8); have R8 := Lib.hid (Blk.bel HRp.out hb8); have HB8 := Lib.hid (bthen HBp.out hb8); clear hb8 o0 o1 o2 o3 o4; obtain ⟨o0, o1, o2, o3, o4⟩ := Blk.cells5 O8.out; have f0 := O8.out.froz 0; have f1 := O8.out.froz 1; have f2 := O8.out.froz 2; have f3 := O8.out.froz 3; have f4 := O8.out.froz 4)
      go_roundw
      case rel => exact ⟨k + 1, by go_num, by omega, Lib.hid (below_set5 HB8.out (by have := HG.out; omega) _ _ _ _ _), Lib.hid (by rw [HB9.out]; exact Blk.set5 O8.out), Lib.hid (Blk.set5_ne R8.out (by have := HG.out; omega))⟩
      case measure => (simp [intOf] <;> omega)
    · have : k = l.length := by omega
      subst this
      obtain ⟨b0, hb0⟩ : ∃ b, bnd (l.take l.length) = b := ⟨_, rfl⟩
      have HF : Hid (bnd l = b0) := Lib.hid (by rw [← hb0, List.take_length])
      rw [hb0] at HO
      clear hlt hk hb0
      obtain ⟨o0, o1, o2, o3, o4⟩ := Blk.cells5 HO.out
      obtain ⟨r0, r1, r2, r3, r4⟩ := Blk.cells5 HR.out
      have f0 := HR.out.froz 0; have f1 := HR.out.froz 1; have f2 := HR.out.froz 2; have f3 := HR.out.froz 3; have f4 := HR.out.froz 4
      have R9 := Lib.hid (Blk.set5 HR.out (x' := .bool b0.no) (y' := .int .i64 b0.lx) (z' := .int .i64 b0.ly) (p' := .int .i64 b0.hx) (q' := .int .i64 b0.hy))
      have B9 := Lib.hid (below_set5 HBk.out (show w.heap.size ≤ g0 by have := HG.out; omega) (.bool b0.no) (.int .i64 b0.lx) (.int .i64 b0.ly) (.int .i64 b0.hx) (.int .i64 b0.hy))
      go_wp2
      refine bodyPost_ret (v := .agg #[.bool b0.no, .int .i64 b0.lx, .int .i64 b0.ly, .int .i64 b0.hx, .int .i64 b0.hy]) ?_ rfl ⟨by rw [HF.out], B9.out⟩
      obtain ⟨q0, q1, q2, q3, q4⟩ := Blk.cells5 R9.out
      simp [results, Try.results17, go_sem, q0, q1, q2, q3, q4]

end Go.Proofs.Ytljcingmjemohaa.K
