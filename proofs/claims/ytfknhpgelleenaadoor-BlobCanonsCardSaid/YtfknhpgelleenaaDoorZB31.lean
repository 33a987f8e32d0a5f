/- What a claim leans on, part 31, cut by a program out of the texts WPeek3. -/
import Derived.Handy
import Derived.IntWalk
import Derived.Deep.RegionLaw
import Derived.Test.YtfknhpgelleenaaDoorZB4
import Derived.Test.YtfknhpgelleenaaDoorZB10
import Derived.Test.YtfknhpgelleenaaDoorZB12
import Derived.Test.YtfknhpgelleenaaDoorZB27
import Derived.Test.YtfknhpgelleenaaDoorZB30
section
namespace Go.Proofs.YtfknhpgelleenaaDoor.K
open Go Go.RowKit Go.Proofs.YtfknhpgelleenaaDoorW.PrintWords Go.Proofs.YtfknhpgelleenaaDoorW.PrintLast Go.Proofs.YtfknhpgelleenaaDoorW.PrintMore
set_option linter.unusedVariables false
set_option linter.unusedSimpArgs false
open Go.Proofs.YtfknhpgelleenaaDoor.MPeek
open Go.Proofs.YtfknhpgelleenaaDoor.MBox (Bx noneB zeroB good)
open Go.Proofs.YtfknhpgelleenaaDoor.MOct (getV)
theorem none_lit (w : World) : Calls Tryd.prog 78 #[] w fun e w' => e = .returned (.agg #[.bool true, .int .i64 0, .int .i64 0, .int .i64 0, .int .i64 0]) ∧ Bel w w' := none_calls w
/-- A head's cells. -/
def hdC (h : Hd) : Array Value := #[.int .i64 h.srs, .bool h.low, .bool h.bx, .bool h.em, .bool h.box.no, .int .i64 h.box.lx, .int .i64 h.box.ly, .int .i64 h.box.hx, .int .i64 h.box.hy]
theorem Blk.cells9 {W : World} {g t : Nat} {a b c d e f h i j : Value} (hb : Blk W g #[a, b, c, d, e, f, h, i, j] t) : W.cell? ⟨g, 0, none⟩ = some a ∧ W.cell? ⟨g, 1, none⟩ = some b ∧ W.cell? ⟨g, 2, none⟩ = some c ∧ W.cell? ⟨g, 3, none⟩ = some d ∧ W.cell? ⟨g, 4, none⟩ = some e ∧ W.cell? ⟨g, 5, none⟩ = some f ∧ W.cell? ⟨g, 6, none⟩ = some h ∧ W.cell? ⟨g, 7, none⟩ = some i ∧ W.cell? ⟨g, 8, none⟩ = some j :=
  ⟨hb.cell 0 rfl, hb.cell 1 rfl, hb.cell 2 rfl, hb.cell 3 rfl, hb.cell 4 rfl, hb.cell 5 rfl, hb.cell 6 rfl, hb.cell 7 rfl, hb.cell 8 rfl⟩
def set9 (W : World) (g : Nat) (a b c d e f h i j : Value) : World := ((((((((W.setCell ⟨g, 0, none⟩ a).setCell ⟨g, 1, none⟩ b).setCell ⟨g, 2, none⟩ c).setCell ⟨g, 3, none⟩ d).setCell ⟨g, 4, none⟩ e).setCell ⟨g, 5, none⟩ f).setCell ⟨g, 6, none⟩ h).setCell ⟨g, 7, none⟩ i).setCell ⟨g, 8, none⟩ j
theorem Blk.set9 {W : World} {g t : Nat} {a b c d e f h i j a' b' c' d' e' f' h' i' j' : Value} (hb : Blk W g #[a, b, c, d, e, f, h, i, j] t) : Blk (K.set9 W g a' b' c' d' e' f' h' i' j') g #[a', b', c', d', e', f', h', i', j'] t := by
  have h09 : Blk (W.setCell ⟨g, 0, none⟩ a') g #[a', b, c, d, e, f, h, i, j] t := hb.set 0 _
  have h19 : Blk (((W.setCell ⟨g, 0, none⟩ a')).setCell ⟨g, 1, none⟩ b') g #[a', b', c, d, e, f, h, i, j] t := h09.set 1 _
  have h29 : Blk (((((W.setCell ⟨g, 0, none⟩ a')).setCell ⟨g, 1, none⟩ b')).setCell ⟨g, 2, none⟩ c') g #[a', b', c', d, e, f, h, i, j] t := h19.set 2 _
  have h39 : Blk (((((((W.setCell ⟨g, 0, none⟩ a')).setCell ⟨g, 1, none⟩ b')).setCell ⟨g, 2, none⟩ c')).setCell ⟨g, 3, none⟩ d') g #[a', b', c', d', e, f, h, i, j] t := h29.set 3 _
  have h49 : Blk (((((((((W.setCell ⟨g, 0, none⟩ a')).setCell ⟨g, 1, none⟩ b')).setCell ⟨g, 2, none⟩ c')).setCell ⟨g, 3, none⟩ d')).setCell ⟨g, 4, none⟩ e') g #[a', b', c', d', e', f, h, i, j] t := h39.set 4 _
  have h59 : Blk (((((((((((W.setCell ⟨g, 0, none⟩ a')).setCell ⟨g, 1, none⟩ b')).setCell ⟨g, 2, none⟩ c')).setCell ⟨g, 3, none⟩ d')).setCell ⟨g, 4, none⟩ e')).setCell ⟨g, 5, none⟩ f') g #[a', b', c', d', e', f', h, i, j] t := h49.set 5 _
  have h69 : Blk (((((((((((((W.setCell ⟨g, 0, none⟩ a')).setCell ⟨g, 1, none⟩ b')).setCell ⟨g, 2, none⟩ c')).setCell ⟨g, 3, none⟩ d')).setCell ⟨g, 4, none⟩ e')).setCell ⟨g, 5, none⟩ f')).setCell ⟨g, 6, none⟩ h') g #[a', b', c', d', e', f', h', i, j] t := h59.set 6 _
  have h79 : Blk (((((((((((((((W.setCell ⟨g, 0, none⟩ a')).setCell ⟨g, 1, none⟩ b')).setCell ⟨g, 2, none⟩ c')).setCell ⟨g, 3, none⟩ d')).setCell ⟨g, 4, none⟩ e')).setCell ⟨g, 5, none⟩ f')).setCell ⟨g, 6, none⟩ h')).setCell ⟨g, 7, none⟩ i') g #[a', b', c', d', e', f', h', i', j] t := h69.set 7 _
  have h89 : Blk (((((((((((((((((W.setCell ⟨g, 0, none⟩ a')).setCell ⟨g, 1, none⟩ b')).setCell ⟨g, 2, none⟩ c')).setCell ⟨g, 3, none⟩ d')).setCell ⟨g, 4, none⟩ e')).setCell ⟨g, 5, none⟩ f')).setCell ⟨g, 6, none⟩ h')).setCell ⟨g, 7, none⟩ i')).setCell ⟨g, 8, none⟩ j') g #[a', b', c', d', e', f', h', i', j'] t := h79.set 8 _
  exact h89
theorem below_set9 {B : Nat} {a w : World} (h : Below B a w) {g : Nat} (hg : B ≤ g) (x0 x1 x2 x3 x4 x5 x6 x7 x8 : Value) : Below B a (set9 w g x0 x1 x2 x3 x4 x5 x6 x7 x8) :=
  below_set (below_set (below_set (below_set (below_set (below_set (below_set (below_set (below_set h hg x0) hg x1) hg x2) hg x3) hg x4) hg x5) hg x6) hg x7) hg x8
set_option maxHeartbeats 4000000 in
set_option maxRecDepth 100000 in
theorem peek_wrong (w : World) (A : Option Addr) (c : Nat) (l : List Int) (h : CB w A l) (hc : l.length ≤ c) (hb : bytesOk l) (hw : wrongS l = true) :
    Calls Tryd.prog 77 #[.slice A l.length c] w fun ex w' => ex = .returned (.tuple #[.agg #[.int .i64 0, .bool false, .bool false, .bool false, .bool false, .int .i64 0, .int .i64 0, .int .i64 0, .int .i64 0], .int .i64 0, .int .i64 9]) ∧ Bel w w' := by
  have HC := Lib.hid h
  have HCN := Lib.hid hc
  have HBY := Lib.hid hb
  have HWR : Hid (∀ W, Bel w W → Calls Tryd.prog 102 #[.slice A l.length c] W fun e w' => e = .returned (.bool true) ∧ Bel W w') := Lib.hid (fun W hh => by
    have := wrong_calls W A c l (h.below hh) hc hb
    rw [hw] at this
    exact this)
  obtain ⟨t, ht⟩ : ∃ t, l.length = t := ⟨_, rfl⟩
  rw [ht] at HWR HCN ⊢
  clear h hc hb hw ht
  have HZ := Lib.hid (Blk.new w #[.int .i64 0, .bool false, .bool false, .bool false, .bool false, .int .i64 0, .int .i64 0, .int .i64 0, .int .i64 0] 69)
  have HB0 : Hid (Bel w (w.alloc (.cells #[.int .i64 0, .bool false, .bool false, .bool false, .bool false, .int .i64 0, .int .i64 0, .int .i64 0, .int .i64 0] 69))) := Lib.hid ((Bel.refl w).alloc (Nat.le_refl _) _)
  go_enter Tryd.func77, Tryd.ntmps77
  go_upto_region 1 with (fail)
  obtain ⟨w1, hW⟩ : ∃ X, w.alloc (.cells #[.int .i64 0, .bool false, .bool false, .bool false, .bool false, .int .i64 0, .int .i64 0, .int .i64 0, .int .i64 0] 69) = X := ⟨_, rfl⟩
  rw [hW] at HZ HB0 ⊢
  clear hW
  obtain ⟨gr, hgr⟩ : ∃ x, w.heap.size = x := ⟨_, rfl⟩
  have HGR := Lib.hid hgr
  rw [hgr] at HZ ⊢
  clear hgr
  go_wp2_with (go_at_call 102; refine (HWR.out w1 HB0.out).mono ?_; rintro e w2 ⟨rfl, b2⟩; have B2 := Lib.hid (bthen HB0.out b2); have Z2 := Lib.hid (Blk.bel HZ.out b2); clear b2; obtain ⟨z0, z1, z2, z3, z4, z5, z6, z7, z8⟩ := Blk.cells9 Z2.out; have k0 := Z2.out.froz 0; have k1 := Z2.out.froz 1; have k2 := Z2.out.froz 2; have k3 := Z2.out.froz 3; have k4 := Z2.out.froz 4; have k5 := Z2.out.froz 5; have k6 := Z2.out.froz 6; have k7 := Z2.out.froz 7; have k8 := Z2.out.froz 8)
  clear z0 z1 z2 z3 z4 z5 z6 z7 z8 k0 k1 k2 k3 k4 k5 k6 k7 k8
  obtain ⟨q0, q1, q2, q3, q4, q5, q6, q7, q8⟩ := Blk.cells9 (Blk.set9 (a' := .int .i64 0) (b' := .bool false) (c' := .bool false) (d' := .bool false) (e' := .bool false) (f' := .int .i64 0) (h' := .int .i64 0) (i' := .int .i64 0) (j' := .int .i64 0) Z2.out)
  unfold K.set9 at q0 q1 q2 q3 q4 q5 q6 q7 q8
  refine bodyPost_ret (v := .tuple #[.agg #[.int .i64 0, .bool false, .bool false, .bool false, .bool false, .int .i64 0, .int .i64 0, .int .i64 0, .int .i64 0], .int .i64 0, .int .i64 9]) (by simp [results, Tryd.results77, go_sem, Act.put, q0, q1, q2, q3, q4, q5, q6, q7, q8]) (by simp [Act.put]) ⟨rfl, below_set9 B2.out (by have := HGR.out; omega) _ _ _ _ _ _ _ _ _⟩
set_option maxHeartbeats 4000000 in
set_option maxRecDepth 100000 in
theorem peek_len (w : World) (A : Option Addr) (c : Nat) (l : List Int) (h : CB w A l) (hc : l.length ≤ c) (hb : bytesOk l) (hw : wrongS l = false) (hl : l.length < 8) :
    Calls Tryd.prog 77 #[.slice A l.length c] w fun ex w' => ex = .returned (.tuple #[.agg #[.int .i64 0, .bool false, .bool false, .bool false, .bool false, .int .i64 0, .int .i64 0, .int .i64 0, .int .i64 0], .int .i64 0, .int .i64 8]) ∧ Bel w w' := by
  have HC := Lib.hid h
  have HCN := Lib.hid hc
  have HBY := Lib.hid hb
  have HWR : Hid (∀ W, Bel w W → Calls Tryd.prog 102 #[.slice A l.length c] W fun e w' => e = .returned (.bool false) ∧ Bel W w') := Lib.hid (fun W hh => by
    have := wrong_calls W A c l (h.below hh) hc hb
    rw [hw] at this
    exact this)
  obtain ⟨t, ht⟩ : ∃ t, l.length = t := ⟨_, rfl⟩
  rw [ht] at HWR HCN ⊢
  rw [ht] at hl
  have hl8 : (t : Int) < 8 := by omega
  clear h hc hb hw ht hl
  have HZ := Lib.hid (Blk.new w #[.int .i64 0, .bool false, .bool false, .bool false, .bool false, .int .i64 0, .int .i64 0, .int .i64 0, .int .i64 0] 69)
  have HB0 : Hid (Bel w (w.alloc (.cells #[.int .i64 0, .bool false, .bool false, .bool false, .bool false, .int .i64 0, .int .i64 0, .int .i64 0, .int .i64 0] 69))) := Lib.hid ((Bel.refl w).alloc (Nat.le_refl _) _)
  go_enter Tryd.func77, Tryd.ntmps77
  go_upto_region 1 with (fail)
  obtain ⟨w1, hW⟩ : ∃ X, w.alloc (.cells #[.int .i64 0, .bool false, .bool false, .bool false, .bool false, .int .i64 0, .int .i64 0, .int .i64 0, .int .i64 0] 69) = X := ⟨_, rfl⟩
  rw [hW] at HZ HB0 ⊢
  clear hW
  obtain ⟨gr, hgr⟩ : ∃ x, w.heap.size = x := ⟨_, rfl⟩
  have HGR := Lib.hid hgr
  rw [hgr] at HZ ⊢
  clear hgr
  go_wp2_with (go_at_call 102; refine (HWR.out w1 HB0.out).mono ?_; rintro e w2 ⟨rfl, b2⟩; have B2 := Lib.hid (bthen HB0.out b2); have Z2 := Lib.hid (Blk.bel HZ.out b2); clear b2; obtain ⟨z0, z1, z2, z3, z4, z5, z6, z7, z8⟩ := Blk.cells9 Z2.out; have k0 := Z2.out.froz 0; have k1 := Z2.out.froz 1; have k2 := Z2.out.froz 2; have k3 := Z2.out.froz 3; have k4 := Z2.out.froz 4; have k5 := Z2.out.froz 5; have k6 := Z2.out.froz 6; have k7 := Z2.out.froz 7; have k8 := Z2.out.froz 8)
  clear z0 z1 z2 z3 z4 z5 z6 z7 z8 k0 k1 k2 k3 k4 k5 k6 k7 k8
  obtain ⟨q0, q1, q2, q3, q4, q5, q6, q7, q8⟩ := Blk.cells9 (Blk.set9 (a' := .int .i64 0) (b' := .bool false) (c' := .bool false) (d' := .bool false) (e' := .bool false) (f' := .int .i64 0) (h' := .int .i64 0) (i' := .int .i64 0) (j' := .int .i64 0) Z2.out)
  unfold K.set9 at q0 q1 q2 q3 q4 q5 q6 q7 q8
  refine bodyPost_ret (v := .tuple #[.agg #[.int .i64 0, .bool false, .bool false, .bool false, .bool false, .int .i64 0, .int .i64 0, .int .i64 0, .int .i64 0], .int .i64 0, .int .i64 8]) (by simp [results, Tryd.results77, go_sem, Act.put, q0, q1, q2, q3, q4, q5, q6, q7, q8]) (by simp [Act.put]) ⟨rfl, below_set9 B2.out (by have := HGR.out; omega) _ _ _ _ _ _ _ _ _⟩
set_option maxHeartbeats 4000000 in
set_option maxRecDepth 100000 in
theorem peek_plain (w : World) (A : Option Addr) (c : Nat) (l : List Int) (h : CB w A l) (hc : l.length ≤ c) (hb : bytesOk l) (hw : wrongS l = false) (hl : ¬ l.length < 8) (hf : bitB (l.getD 3 0) 2 = false) :
    Calls Tryd.prog 77 #[.slice A l.length c] w fun ex w' => ex = .returned (.tuple #[.agg (hdC (headS (l.getD 3 0) l)), .int .i64 8, .int .i64 0]) ∧ Bel w w' := by
  have HC := Lib.hid h
  have HCN := Lib.hid hc
  have HBY := Lib.hid hb
  have HWR : Hid (∀ W, Bel w W → Calls Tryd.prog 102 #[.slice A l.length c] W fun e w' => e = .returned (.bool false) ∧ Bel W w') := Lib.hid (fun W hh => by
    have := wrong_calls W A c l (h.below hh) hc hb
    rw [hw] at this
    exact this)
  obtain ⟨x3, hx3⟩ : ∃ x, l.getD 3 0 = x := ⟨_, rfl⟩
  have hxr : 0 ≤ x3 ∧ x3 < 256 := by
    rw [← hx3, List.getD_eq_getElem?_getD, List.getElem?_eq_getElem (show 3 < l.length by omega)]
    exact hb _ (List.getElem_mem _)
  obtain ⟨ad, hA, hcell⟩ := h.at_ 3 (by omega)
  subst hA
  obtain ⟨ad0, hA0, hcell0⟩ := h.at_ 0 (by omega)
  obtain rfl := Option.some.inj hA0
  obtain ⟨b, off, rfl, hlt⟩ := add_none hcell0
  rw [add_mid, hx3] at hcell
  have HCELL := Lib.hid hcell
  obtain ⟨-, bt2, bt16, bt1⟩ := bits_flags x3 hxr
  obtain ⟨lw, hlw⟩ : ∃ v, bitB x3 1 = v := ⟨_, rfl⟩
  obtain ⟨bx, hbx⟩ : ∃ v, bitB x3 2 = v := ⟨_, rfl⟩
  obtain ⟨em, hem⟩ : ∃ v, bitB x3 16 = v := ⟨_, rfl⟩
  rw [hlw] at bt1
  rw [hbx] at bt2
  rw [hem] at bt16
  obtain ⟨sr, hsr⟩ : ∃ v, w32 (getV (l.drop 4) 4 lw).1 = v := ⟨_, rfl⟩
  have hG := fun W (hh : Bel w W) => octet_Get_calls _ (c - 4) (l.drop 4) 4 lw W ((h.below hh).drop 4 c (by omega) hc) (by rw [List.length_drop]; omega) (bytesOk_drop hb 4)
  have hl4 : (l.drop 4).length = l.length - 4 := List.length_drop
  obtain ⟨t, ht⟩ : ∃ t, l.length = t := ⟨_, rfl⟩
  rw [ht] at HWR HCN hl4 hl ⊢
  have hl8 : ¬ (t : Int) < 8 := by omega
  have h3t : (3 : Int) < (t : Int) := by omega
  have h4t : (4 : Int) ≤ (t : Int) := by omega
  have hc4 : ¬ c = 4 := by have := HCN.out; omega
  rw [hx3] at hf ⊢
  have hbf : bx = false := by rw [← hbx]; exact hf
  have hret : hdC (headS x3 l) = #[.int .i64 sr, .bool lw, .bool bx, .bool em, .bool true, .int .i64 0, .int .i64 0, .int .i64 0, .int .i64 0] := by
    unfold hdC headS
    rw [hlw, hbx, hem]
    simp only [hsr]
    rfl
  rw [hret, hbf]
  obtain ⟨⟨gv, gb⟩, hgv⟩ : ∃ v, getV (l.drop 4) 4 lw = v := ⟨_, rfl⟩
  have hA4 : (if c = 4 then (some (⟨b, off, none⟩ : Addr)) else (some (⟨b, off, none⟩ : Addr)).map (fun x => x.add 4)) = some ⟨b, off + 4, none⟩ := by rw [if_neg hc4]; simp [add_mid]
  rw [hgv] at hG hsr
  have HG : Hid (∀ W, Bel w W → Calls Tryd.prog 103 #[.slice (some ⟨b, off + 4, none⟩) (t - 4) (c - 4), .int .i64 4, .bool lw] W fun e w' => e = .returned (.tuple #[.int .u64 gv, .bool gb]) ∧ W = w') := Lib.hid (fun W hh => by
    have := hG W hh
    rw [hA4, hl4] at this
    exact this)
  have hw32 : IntKind.i32.wrap gv = sr := by rw [IntKind.wrap_i32, ← hsr]; rfl
  have hw64 : IntKind.i64.wrap sr = sr := IntWalk.i64_in _ (by rw [← hsr]; show -9223372036854775808 ≤ w32 gv ∧ _; unfold w32; omega)
  subst hbf
  clear h hc hb hw ht hcell0 hA0 hxr hG hx3 hf hret hA4 hgv hsr hl4 hlw hem hbx hl hlt hcell
  have HZ := Lib.hid (Blk.new w #[.int .i64 0, .bool false, .bool false, .bool false, .bool false, .int .i64 0, .int .i64 0, .int .i64 0, .int .i64 0] 69)
  have HB0 : Hid (Bel w (w.alloc (.cells #[.int .i64 0, .bool false, .bool false, .bool false, .bool false, .int .i64 0, .int .i64 0, .int .i64 0, .int .i64 0] 69))) := Lib.hid ((Bel.refl w).alloc (Nat.le_refl _) _)
  go_enter Tryd.func77, Tryd.ntmps77
  go_upto_region 1 with (fail)
  obtain ⟨w1, hW⟩ : ∃ X, w.alloc (.cells #[.int .i64 0, .bool false, .bool false, .bool false, .bool false, .int .i64 0, .int .i64 0, .int .i64 0, .int .i64 0] 69) = X := ⟨_, rfl⟩
  rw [hW] at HZ HB0 ⊢
  clear hW
  obtain ⟨gr, hgr⟩ : ∃ x, w.heap.size = x := ⟨_, rfl⟩
  have HGR := Lib.hid hgr
  rw [hgr] at HZ ⊢
  clear hgr
  go_upto_region 7 with (first
    | (go_at_call 78; refine (none_lit w2).mono ?_; rintro e w3 ⟨rfl, b3⟩; have B3 := Lib.hid (bthen B2.out b3); have Z3 := Lib.hid (Blk.bel Z2.out b3); clear b3)
    | (go_at_call 102; refine (HWR.out w1 HB0.out).mono ?_; rintro e w2 ⟨rfl, b2⟩; have B2 := Lib.hid (bthen HB0.out b2); have Z2 := Lib.hid (Blk.bel HZ.out b2); have y3 : w2.cell? ⟨b, off + 3, none⟩ = some (.int .u8 x3) := kc (bthen HB0.out b2) HCELL.out; clear b2; obtain ⟨z0, z1, z2, z3, z4, z5, z6, z7, z8⟩ := Blk.cells9 Z2.out; have k0 := Z2.out.froz 0; have k1 := Z2.out.froz 1; have k2 := Z2.out.froz 2; have k3 := Z2.out.froz 3; have k4 := Z2.out.froz 4; have k5 := Z2.out.froz 5; have k6 := Z2.out.froz 6; have k7 := Z2.out.froz 7; have k8 := Z2.out.froz 8))
  have X4 := Blk.new w3 #[.int .i64 0, .bool lw, .bool false, .bool em, .bool true, .int .i64 0, .int .i64 0, .int .i64 0, .int .i64 0] 69
  have HB4 : Hid (Bel w3 (w3.alloc (.cells #[.int .i64 0, .bool lw, .bool false, .bool em, .bool true, .int .i64 0, .int .i64 0, .int .i64 0, .int .i64 0] 69))) := Lib.hid ((Bel.refl w3).alloc (Nat.le_refl _) _)
  obtain ⟨w4, hW⟩ : ∃ X, w3.alloc (.cells #[.int .i64 0, .bool lw, .bool false, .bool em, .bool true, .int .i64 0, .int .i64 0, .int .i64 0, .int .i64 0] 69) = X := ⟨_, rfl⟩
  rw [hW] at X4 HB4 ⊢
  clear hW
  obtain ⟨gh, hgh⟩ : ∃ x, w3.heap.size = x := ⟨_, rfl⟩
  rw [hgh] at X4 ⊢
  have HGG : Hid (gr < gh) := Lib.hid (by rw [← hgh]; exact Z3.out.lt)
  clear hgh z0 z1 z2 z3 z4 z5 z6 z7 z8 k0 k1 k2 k3 k4 k5 k6 k7 k8 y3
  have B4 := Lib.hid (bthen B3.out HB4.out)
  have Z4 := Lib.hid (Blk.bel Z3.out HB4.out)
  have HX4 := Lib.hid X4
  clear X4
  obtain ⟨x0, x1, x2, x3', x4, x5, x6, x7, x8⟩ := Blk.cells9 HX4.out
  go_region_law (first
    | (go_simp; go_at_call 103; refine (HG.out _ (bthen B4.out (Bel.drew _))).mono ?_; rintro e w9 ⟨rfl, rfl⟩))
  all_goals
    have X5 : Blk (w4.setCell ⟨gh, 0, none⟩ (.int .i64 sr)).drew gh #[.int .i64 sr, .bool lw, .bool false, .bool em, .bool true, .int .i64 0, .int .i64 0, .int .i64 0, .int .i64 0] 69 := (HX4.out.set 0 _).drew
    have B5 : Hid (Bel w (w4.setCell ⟨gh, 0, none⟩ (.int .i64 sr)).drew) := Lib.hid (bthen (below_set B4.out (by have := HGG.out; have := HGR.out; omega) _) (Bel.drew _))
    have Z5 : Hid (Blk (w4.setCell ⟨gh, 0, none⟩ (.int .i64 sr)).drew gr #[.int .i64 0, .bool false, .bool false, .bool false, .bool false, .int .i64 0, .int .i64 0, .int .i64 0, .int .i64 0] 69) := Lib.hid ((Z4.out.set_ne (i := 0) (by have := HGG.out; omega : gr ≠ gh) (.int .i64 sr)).drew)
    have f0 := HX4.out.froz 0
    go_upto_region 9 with (fail)
    obtain ⟨w5, hW⟩ : ∃ X, (w4.setCell ⟨gh, 0, none⟩ (.int .i64 sr)).drew = X := ⟨_, rfl⟩
    rw [hW] at X5 B5 Z5 ⊢
    clear hW x0 x1 x2 x3' x4 x5 x6 x7 x8 f0
    obtain ⟨x0, x1, x2, x3', x4, x5, x6, x7, x8⟩ := Blk.cells9 X5
    have HX5 := Lib.hid X5
    obtain ⟨z0, z1, z2, z3, z4, z5, z6, z7, z8⟩ := Blk.cells9 Z5.out
    have k0 := Z5.out.froz 0; have k1 := Z5.out.froz 1; have k2 := Z5.out.froz 2; have k3 := Z5.out.froz 3; have k4 := Z5.out.froz 4; have k5 := Z5.out.froz 5; have k6 := Z5.out.froz 6; have k7 := Z5.out.froz 7; have k8 := Z5.out.froz 8
    clear X5
    go_wp2
    clear z0 z1 z2 z3 z4 z5 z6 z7 z8 k0 k1 k2 k3 k4 k5 k6 k7 k8
    obtain ⟨q0, q1, q2, q3, q4, q5, q6, q7, q8⟩ := Blk.cells9 (Blk.set9 (a' := .int .i64 sr) (b' := .bool lw) (c' := .bool false) (d' := .bool em) (e' := .bool true) (f' := .int .i64 0) (h' := .int .i64 0) (i' := .int .i64 0) (j' := .int .i64 0) Z5.out)
    unfold K.set9 at q0 q1 q2 q3 q4 q5 q6 q7 q8
    refine bodyPost_ret (v := .tuple #[.agg #[.int .i64 sr, .bool lw, .bool false, .bool em, .bool true, .int .i64 0, .int .i64 0, .int .i64 0, .int .i64 0], .int .i64 8, .int .i64 0]) (by simp [results, Tryd.results77, go_sem, Act.put, q0, q1, q2, q3, q4, q5, q6, q7, q8]) (by simp [Act.put]) ⟨rfl, below_set9 B5.out (by have := HGR.out; omega) _ _ _ _ _ _ _ _ _⟩
end Go.Proofs.YtfknhpgelleenaaDoor.K
end
