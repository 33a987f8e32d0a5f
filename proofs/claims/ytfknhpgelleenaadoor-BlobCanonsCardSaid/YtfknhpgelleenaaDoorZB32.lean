/- What a claim leans on, part 32, cut by a program out of the texts WPeek4. -/
import Derived.Handy
import Derived.IntWalk
import Derived.Deep.RegionLaw
import Derived.Test.YtfknhpgelleenaaDoorZB4
import Derived.Test.YtfknhpgelleenaaDoorZB6
import Derived.Test.YtfknhpgelleenaaDoorZB10
import Derived.Test.YtfknhpgelleenaaDoorZB12
import Derived.Test.YtfknhpgelleenaaDoorZB30
import Derived.Test.YtfknhpgelleenaaDoorZB31
section
namespace Go.Proofs.YtfknhpgelleenaaDoor.K
open Go Go.RowKit Go.Proofs.YtfknhpgelleenaaDoorW.PrintWords Go.Proofs.YtfknhpgelleenaaDoorW.PrintLast Go.Proofs.YtfknhpgelleenaaDoorW.PrintMore
set_option linter.unusedVariables false
set_option linter.unusedSimpArgs false
open Go.Proofs.YtfknhpgelleenaaDoor.MPeek
open Go.Proofs.YtfknhpgelleenaaDoor.MBox (Bx noneB zeroB good)
open Go.Proofs.YtfknhpgelleenaaDoor.MOct (getV)
open Go.Proofs.YtfknhpgelleenaaDoor.MRead (wrapI)
theorem bgrown {B : Nat} {W W' : World} {b : Nat} (h : W.grownBy W' (some b)) (hb : B ≤ b) (hB : B ≤ W.heap.size) : Below B W W' :=
  ⟨h.os, h.tape, h.output, h.size, fun k hk => h.block k (by omega) (fun e => by have := Option.some.inj e; omega)⟩
theorem Blk.setB {W : World} {g t : Nat} {a b c d e f h i j e' f' h' i' j' : Value} (hb : Blk W g #[a, b, c, d, e, f, h, i, j] t) : Blk (((((W.setCell ⟨g, 4, none⟩ e').setCell ⟨g, 5, none⟩ f').setCell ⟨g, 6, none⟩ h').setCell ⟨g, 7, none⟩ i').setCell ⟨g, 8, none⟩ j') g #[a, b, c, d, e', f', h', i', j'] t := by
  have h1 : Blk (W.setCell ⟨g, 4, none⟩ e') g #[a, b, c, d, e', f, h, i, j] t := hb.set 4 _
  have h2 : Blk ((W.setCell ⟨g, 4, none⟩ e').setCell ⟨g, 5, none⟩ f') g #[a, b, c, d, e', f', h, i, j] t := h1.set 5 _
  have h3 : Blk (((W.setCell ⟨g, 4, none⟩ e').setCell ⟨g, 5, none⟩ f').setCell ⟨g, 6, none⟩ h') g #[a, b, c, d, e', f', h', i, j] t := h2.set 6 _
  have h4 : Blk ((((W.setCell ⟨g, 4, none⟩ e').setCell ⟨g, 5, none⟩ f').setCell ⟨g, 6, none⟩ h').setCell ⟨g, 7, none⟩ i') g #[a, b, c, d, e', f', h', i', j] t := h3.set 7 _
  exact h4.set 8 _
theorem int_at {w : World} {q : Nat} {lw : Bool} {l : List Int} {j : Nat} (hs : Src w q true (((l.drop 8).take 32).drop (8 * j)) 0) (hb : bytesOk l) (hl : 40 ≤ l.length) (hj : j < 4) :
    Calls Tryd.prog 104 #[.pointer (some ⟨q, 0, none⟩), .bool lw] w fun e w' => e = .returned (.int .i64 (at8 lw l (8 + 8 * j))) ∧ w.grownBy w' (some q) ∧ Src w' q true (((l.drop 8).take 32).drop (8 * (j + 1))) 0 := by
  have hbb : bytesOk (((l.drop 8).take 32).drop (8 * j)) := fun x hx => hb x (List.mem_of_mem_drop (List.mem_of_mem_take (List.mem_of_mem_drop hx)))
  have hll : (((l.drop 8).take 32).drop (8 * j)).length = 32 - 8 * j := by rw [List.length_drop, List.length_take, List.length_drop]; omega
  have he : ((l.drop 8).take 32).drop (8 * j) = (l.drop (8 + 8 * j)).take (32 - 8 * j) := by rw [List.drop_take, List.drop_drop]
  have hv : getV (((l.drop 8).take 32).drop (8 * j)) 8 lw = getV (l.drop (8 + 8 * j)) 8 lw := by
    rw [he]
    exact MRead.getV_take (k := 8) (by omega) (by rw [List.length_drop]; omega) lw
  obtain ⟨-, hv0, hv1⟩ := getV8_in hbb lw (by rw [hll]; omega)
  refine (Int_calls w q true _ 0 lw hs hbb).mono ?_
  rw [numS_ok8 hbb lw (by rw [hll]; omega)]
  rintro ex W1 ⟨rfl, h1, h2⟩
  refine ⟨by rw [wrapI_eq hv0 hv1, hv]; rfl, h1, ?_⟩
  rw [show 8 * (j + 1) = 8 * j + 8 by omega, ← List.drop_drop]
  exact h2
def arrK (a b c d : Int) (k : Nat) : Array Value := match k with
  | 0 => #[.int .i64 0, .int .i64 0, .int .i64 0, .int .i64 0]
  | 1 => #[.int .i64 a, .int .i64 0, .int .i64 0, .int .i64 0]
  | 2 => #[.int .i64 a, .int .i64 b, .int .i64 0, .int .i64 0]
  | 3 => #[.int .i64 a, .int .i64 b, .int .i64 c, .int .i64 0]
  | _ => #[.int .i64 a, .int .i64 b, .int .i64 c, .int .i64 d]
theorem src_arr {W : World} {q ga i : Nat} {L : List Int} {a b c d : Int} {k : Nat} (h : Src W q true L 0) (hg : Blk W ga (arrK a b c d k) 99) (hne : q ≠ ga) (u : Value) : Src (W.setCell ⟨ga, i, none⟩ u) q true L 0 := by
  have hgr : W.grownBy (W.setCell ⟨ga, i, none⟩ u) (some ga) := only_setCell (g := ga) (p := ⟨ga, i, none⟩) (World.grownBy.refl _ _) (.inl rfl) _
  refine h.only h.lt hne hgr (fun A hA => hA.only hg (fun v hv x => ?_) hgr)
  unfold arrK at hv
  split at hv <;> simp at hv <;> rcases hv with rfl | rfl | rfl | rfl <;> simp
set_option maxHeartbeats 4000000 in
set_option maxRecDepth 100000 in
theorem peek_cut (w : World) (A : Option Addr) (c : Nat) (l : List Int) (h : CB w A l) (hc : l.length ≤ c) (hb : bytesOk l) (hw : wrongS l = false) (hl : ¬ l.length < 8) (hf : bitB (l.getD 3 0) 2 = true) (hl2 : l.length < 40) :
    Calls Tryd.prog 77 #[.slice A l.length c] w fun ex w' => ex = .returned (.tuple #[.agg #[.int .i64 0, .bool false, .bool false, .bool false, .bool false, .int .i64 0, .int .i64 0, .int .i64 0, .int .i64 0], .int .i64 0, .int .i64 8]) ∧ Bel w w' := by
  have HC := Lib.hid h
  have HCN := Lib.hid hc
  have HBY := Lib.hid hb
  have HWR : Hid (∀ W, Bel w W → Calls Tryd.prog 102 #[.slice A l.length c] W fun e w' => e = .returned (.bool false) ∧ Bel W w') := Lib.hid (fun W hh => by
    have := wrong_calls W A c l (h.below hh) hc hb
    rw [hw] at this
    exact this)
  obtain ⟨x3, hx3⟩ : ∃ x, l.getD 3 0 = x := ⟨_, rfl⟩
  have hxr : 0 ≤ x3 ∧ x3 < 256 := by
    rw [← hx3, List.getD_eq_getElem?_getD, List.getElem?_eq_getElem (show 3 < l.length by omega)]
    exact hb _ (List.getElem_mem _)
  obtain ⟨ad, hA, hcell⟩ := h.at_ 3 (by omega)
  subst hA
  obtain ⟨ad0, hA0, hcell0⟩ := h.at_ 0 (by omega)
  obtain rfl := Option.some.inj hA0
  obtain ⟨b, off, rfl, hlt⟩ := add_none hcell0
  rw [add_mid, hx3] at hcell
  have HCELL := Lib.hid hcell
  obtain ⟨-, bt2, bt16, bt1⟩ := bits_flags x3 hxr
  obtain ⟨lw, hlw⟩ : ∃ v, bitB x3 1 = v := ⟨_, rfl⟩
  obtain ⟨bx, hbx⟩ : ∃ v, bitB x3 2 = v := ⟨_, rfl⟩
  obtain ⟨em, hem⟩ : ∃ v, bitB x3 16 = v := ⟨_, rfl⟩
  rw [hlw] at bt1
  rw [hbx] at bt2
  rw [hem] at bt16
  obtain ⟨sr, hsr⟩ : ∃ v, w32 (getV (l.drop 4) 4 lw).1 = v := ⟨_, rfl⟩
  have hG := fun W (hh : Bel w W) => octet_Get_calls _ (c - 4) (l.drop 4) 4 lw W ((h.below hh).drop 4 c (by omega) hc) (by rw [List.length_drop]; omega) (bytesOk_drop hb 4)
  have hl4 : (l.drop 4).length = l.length - 4 := List.length_drop
  obtain ⟨t, ht⟩ : ∃ t, l.length = t := ⟨_, rfl⟩
  rw [ht] at HWR HCN hl4 hl ⊢
  have hl8 : ¬ (t : Int) < 8 := by omega
  have h3t : (3 : Int) < (t : Int) := by omega
  have h4t : (4 : Int) ≤ (t : Int) := by omega
  have hc4 : ¬ c = 4 := by have := HCN.out; omega
  rw [hx3] at hf
  try rw [hx3]
  have hbf : bx = true := by rw [← hbx]; exact hf
  have hret : hdC (headS x3 l) = #[.int .i64 sr, .bool lw, .bool bx, .bool em, .bool true, .int .i64 0, .int .i64 0, .int .i64 0, .int .i64 0] := by
    unfold hdC headS
    rw [hlw, hbx, hem]
    simp only [hsr]
    rfl
  have h40 : (t : Int) < 40 := by rw [ht] at hl2; omega
  clear hl2
  try rw [hbf]
  obtain ⟨⟨gv, gb⟩, hgv⟩ : ∃ v, getV (l.drop 4) 4 lw = v := ⟨_, rfl⟩
  have hA4 : (if c = 4 then (some (⟨b, off, none⟩ : Addr)) else (some (⟨b, off, none⟩ : Addr)).map (fun x => x.add 4)) = some ⟨b, off + 4, none⟩ := by rw [if_neg hc4]; simp [add_mid]
  rw [hgv] at hG hsr
  have HG : Hid (∀ W, Bel w W → Calls Tryd.prog 103 #[.slice (some ⟨b, off + 4, none⟩) (t - 4) (c - 4), .int .i64 4, .bool lw] W fun e w' => e = .returned (.tuple #[.int .u64 gv, .bool gb]) ∧ W = w') := Lib.hid (fun W hh => by
    have := hG W hh
    rw [hA4, hl4] at this
    exact this)
  have hw32 : IntKind.i32.wrap gv = sr := by rw [IntKind.wrap_i32, ← hsr]; rfl
  have hw64 : IntKind.i64.wrap sr = sr := IntWalk.i64_in _ (by rw [← hsr]; show -9223372036854775808 ≤ w32 gv ∧ _; unfold w32; omega)
  subst hbf
  clear h hc hb hw ht hcell0 hA0 hxr hG hx3 hf hret hA4 hgv hsr hl4 hlw hem hbx hl hlt hcell
  have HZ := Lib.hid (Blk.new w #[.int .i64 0, .bool false, .bool false, .bool false, .bool false, .int .i64 0, .int .i64 0, .int .i64 0, .int .i64 0] 69)
  have HB0 : Hid (Bel w (w.alloc (.cells #[.int .i64 0, .bool false, .bool false, .bool false, .bool false, .int .i64 0, .int .i64 0, .int .i64 0, .int .i64 0] 69))) := Lib.hid ((Bel.refl w).alloc (Nat.le_refl _) _)
  go_enter Tryd.func77, Tryd.ntmps77
  go_upto_region 1 with (fail)
  obtain ⟨w1, hW⟩ : ∃ X, w.alloc (.cells #[.int .i64 0, .bool false, .bool false, .bool false, .bool false, .int .i64 0, .int .i64 0, .int .i64 0, .int .i64 0] 69) = X := ⟨_, rfl⟩
  rw [hW] at HZ HB0 ⊢
  clear hW
  obtain ⟨gr, hgr⟩ : ∃ x, w.heap.size = x := ⟨_, rfl⟩
  have HGR := Lib.hid hgr
  rw [hgr] at HZ ⊢
  clear hgr
  go_upto_region 7 with (first
    | (go_at_call 78; refine (none_lit w2).mono ?_; rintro e w3 ⟨rfl, b3⟩; have B3 := Lib.hid (bthen B2.out b3); have Z3 := Lib.hid (Blk.bel Z2.out b3); clear b3)
    | (go_at_call 102; refine (HWR.out w1 HB0.out).mono ?_; rintro e w2 ⟨rfl, b2⟩; have B2 := Lib.hid (bthen HB0.out b2); have Z2 := Lib.hid (Blk.bel HZ.out b2); have y3 : w2.cell? ⟨b, off + 3, none⟩ = some (.int .u8 x3) := kc (bthen HB0.out b2) HCELL.out; clear b2; obtain ⟨z0, z1, z2, z3, z4, z5, z6, z7, z8⟩ := Blk.cells9 Z2.out; have k0 := Z2.out.froz 0; have k1 := Z2.out.froz 1; have k2 := Z2.out.froz 2; have k3 := Z2.out.froz 3; have k4 := Z2.out.froz 4; have k5 := Z2.out.froz 5; have k6 := Z2.out.froz 6; have k7 := Z2.out.froz 7; have k8 := Z2.out.froz 8))
  have X4 := Blk.new w3 #[.int .i64 0, .bool lw, .bool true, .bool em, .bool true, .int .i64 0, .int .i64 0, .int .i64 0, .int .i64 0] 69
  have HB4 : Hid (Bel w3 (w3.alloc (.cells #[.int .i64 0, .bool lw, .bool true, .bool em, .bool true, .int .i64 0, .int .i64 0, .int .i64 0, .int .i64 0] 69))) := Lib.hid ((Bel.refl w3).alloc (Nat.le_refl _) _)
  obtain ⟨w4, hW⟩ : ∃ X, w3.alloc (.cells #[.int .i64 0, .bool lw, .bool true, .bool em, .bool true, .int .i64 0, .int .i64 0, .int .i64 0, .int .i64 0] 69) = X := ⟨_, rfl⟩
  rw [hW] at X4 HB4 ⊢
  clear hW
  obtain ⟨gh, hgh⟩ : ∃ x, w3.heap.size = x := ⟨_, rfl⟩
  rw [hgh] at X4 ⊢
  have HGG : Hid (gr < gh) := Lib.hid (by rw [← hgh]; exact Z3.out.lt)
  clear hgh z0 z1 z2 z3 z4 z5 z6 z7 z8 k0 k1 k2 k3 k4 k5 k6 k7 k8 y3
  have B4 := Lib.hid (bthen B3.out HB4.out)
  have Z4 := Lib.hid (Blk.bel Z3.out HB4.out)
  have HX4 := Lib.hid X4
  clear X4
  obtain ⟨x0, x1, x2, x3', x4, x5, x6, x7, x8⟩ := Blk.cells9 HX4.out
  go_region_law (first
    | (go_simp; go_at_call 103; refine (HG.out _ (bthen B4.out (Bel.drew _))).mono ?_; rintro e w9 ⟨rfl, rfl⟩))
  all_goals
    have X5 : Blk (w4.setCell ⟨gh, 0, none⟩ (.int .i64 sr)).drew gh #[.int .i64 sr, .bool lw, .bool true, .bool em, .bool true, .int .i64 0, .int .i64 0, .int .i64 0, .int .i64 0] 69 := (HX4.out.set 0 _).drew
    have B5 : Hid (Bel w (w4.setCell ⟨gh, 0, none⟩ (.int .i64 sr)).drew) := Lib.hid (bthen (below_set B4.out (by have := HGG.out; have := HGR.out; omega) _) (Bel.drew _))
    have Z5 : Hid (Blk (w4.setCell ⟨gh, 0, none⟩ (.int .i64 sr)).drew gr #[.int .i64 0, .bool false, .bool false, .bool false, .bool false, .int .i64 0, .int .i64 0, .int .i64 0, .int .i64 0] 69) := Lib.hid ((Z4.out.set_ne (i := 0) (by have := HGG.out; omega : gr ≠ gh) (.int .i64 sr)).drew)
    have f0 := HX4.out.froz 0
    go_upto_region 9 with (fail)
    obtain ⟨w5, hW⟩ : ∃ X, (w4.setCell ⟨gh, 0, none⟩ (.int .i64 sr)).drew = X := ⟨_, rfl⟩
    rw [hW] at X5 B5 Z5 ⊢
    clear hW x0 x1 x2 x3' x4 x5 x6 x7 x8 f0
    obtain ⟨x0, x1, x2, x3', x4, x5, x6, x7, x8⟩ := Blk.cells9 X5
    have HX5 := Lib.hid X5
    obtain ⟨z0, z1, z2, z3, z4, z5, z6, z7, z8⟩ := Blk.cells9 Z5.out
    have k0 := Z5.out.froz 0; have k1 := Z5.out.froz 1; have k2 := Z5.out.froz 2; have k3 := Z5.out.froz 3; have k4 := Z5.out.froz 4; have k5 := Z5.out.froz 5; have k6 := Z5.out.froz 6; have k7 := Z5.out.froz 7; have k8 := Z5.out.froz 8
    clear X5
    go_wp2
    clear z0 z1 z2 z3 z4 z5 z6 z7 z8 k0 k1 k2 k3 k4 k5 k6 k7 k8
    obtain ⟨q0, q1, q2, q3, q4, q5, q6, q7, q8⟩ := Blk.cells9 (Blk.set9 (a' := .int .i64 0) (b' := .bool false) (c' := .bool false) (d' := .bool false) (e' := .bool false) (f' := .int .i64 0) (h' := .int .i64 0) (i' := .int .i64 0) (j' := .int .i64 0) Z5.out)
    unfold K.set9 at q0 q1 q2 q3 q4 q5 q6 q7 q8
    refine bodyPost_ret (v := .tuple #[.agg #[.int .i64 0, .bool false, .bool false, .bool false, .bool false, .int .i64 0, .int .i64 0, .int .i64 0, .int .i64 0], .int .i64 0, .int .i64 8]) (by simp [results, Tryd.results77, go_sem, Act.put, q0, q1, q2, q3, q4, q5, q6, q7, q8]) (by simp [Act.put]) ⟨rfl, below_set9 B5.out (by have := HGR.out; omega) _ _ _ _ _ _ _ _ _⟩
set_option maxHeartbeats 4000000 in
set_option maxRecDepth 100000 in
theorem peek_box_bad (w : World) (A : Option Addr) (c : Nat) (l : List Int) (h : CB w A l) (hc : l.length ≤ c) (hb : bytesOk l) (hw : wrongS l = false) (hl : ¬ l.length < 8) (hf : bitB (l.getD 3 0) 2 = true) (hl2 : ¬ l.length < 40) (hg : good (boxAt (bitB (l.getD 3 0) 1) l) = false) :
    Calls Tryd.prog 77 #[.slice A l.length c] w fun ex w' => ex = .returned (.tuple #[.agg #[.int .i64 0, .bool false, .bool false, .bool false, .bool false, .int .i64 0, .int .i64 0, .int .i64 0, .int .i64 0], .int .i64 0, .int .i64 9]) ∧ Bel w w' := by
  have HC := Lib.hid h
  have HCN := Lib.hid hc
  have HBY := Lib.hid hb
  have HWR : Hid (∀ W, Bel w W → Calls Tryd.prog 102 #[.slice A l.length c] W fun e w' => e = .returned (.bool false) ∧ Bel W w') := Lib.hid (fun W hh => by
    have := wrong_calls W A c l (h.below hh) hc hb
    rw [hw] at this
    exact this)
  obtain ⟨x3, hx3⟩ : ∃ x, l.getD 3 0 = x := ⟨_, rfl⟩
  have hxr : 0 ≤ x3 ∧ x3 < 256 := by
    rw [← hx3, List.getD_eq_getElem?_getD, List.getElem?_eq_getElem (show 3 < l.length by omega)]
    exact hb _ (List.getElem_mem _)
  obtain ⟨ad, hA, hcell⟩ := h.at_ 3 (by omega)
  subst hA
  obtain ⟨ad0, hA0, hcell0⟩ := h.at_ 0 (by omega)
  obtain rfl := Option.some.inj hA0
  obtain ⟨b, off, rfl, hlt⟩ := add_none hcell0
  rw [add_mid, hx3] at hcell
  have HCELL := Lib.hid hcell
  obtain ⟨-, bt2, bt16, bt1⟩ := bits_flags x3 hxr
  obtain ⟨lw, hlw⟩ : ∃ v, bitB x3 1 = v := ⟨_, rfl⟩
  obtain ⟨bx, hbx⟩ : ∃ v, bitB x3 2 = v := ⟨_, rfl⟩
  obtain ⟨em, hem⟩ : ∃ v, bitB x3 16 = v := ⟨_, rfl⟩
  rw [hlw] at bt1
  rw [hbx] at bt2
  rw [hem] at bt16
  obtain ⟨sr, hsr⟩ : ∃ v, w32 (getV (l.drop 4) 4 lw).1 = v := ⟨_, rfl⟩
  have hG := fun W (hh : Bel w W) => octet_Get_calls _ (c - 4) (l.drop 4) 4 lw W ((h.below hh).drop 4 c (by omega) hc) (by rw [List.length_drop]; omega) (bytesOk_drop hb 4)
  have hl4 : (l.drop 4).length = l.length - 4 := List.length_drop
  obtain ⟨t, ht⟩ : ∃ t, l.length = t := ⟨_, rfl⟩
  rw [ht] at HWR HCN hl4 hl ⊢
  have hl8 : ¬ (t : Int) < 8 := by omega
  have h3t : (3 : Int) < (t : Int) := by omega
  have h4t : (4 : Int) ≤ (t : Int) := by omega
  have hc4 : ¬ c = 4 := by have := HCN.out; omega
  rw [hx3] at hf
  try rw [hx3]
  have hbf : bx = true := by rw [← hbx]; exact hf
  have hret : hdC (headS x3 l) = #[.int .i64 sr, .bool lw, .bool bx, .bool em, .bool true, .int .i64 0, .int .i64 0, .int .i64 0, .int .i64 0] := by
    unfold hdC headS
    rw [hlw, hbx, hem]
    simp only [hsr]
    rfl
  have h40 : ¬ (t : Int) < 40 := by rw [ht] at hl2; omega
  have HLL : Hid (40 ≤ l.length) := Lib.hid (by omega)
  have h40t : (40 : Int) ≤ (c : Int) := by have := HCN.out; rw [ht] at hl2; omega
  have h40u : 40 ≤ c := by have := HCN.out; rw [ht] at hl2; omega
  have hc8 : ¬ c = 8 := by omega
  have HRD : Hid (∀ W, Bel w W → Calls Tryd.prog 73 #[.slice (some ⟨b, off + 8, none⟩) 32 (c - 8)] W fun e w' => ∃ q, e = .returned (.pointer (some ⟨q, 0, none⟩)) ∧ W.heap.size ≤ q ∧ Bel W w' ∧ Src w' q true ((l.drop 8).take 32) 0) := Lib.hid (fun W hh => by
    have h1 := ((HC.out.below hh).drop 8 c (by omega) (by rw [ht]; exact HCN.out)).take 32 (by rw [List.length_drop]; omega)
    have hl32 : ((l.drop 8).take 32).length = 32 := by rw [List.length_take, List.length_drop]; omega
    rw [if_neg hc8] at h1
    have hA8 : (some (⟨b, off, none⟩ : Addr)).map (fun x => x.add 8) = some ⟨b, off + 8, none⟩ := by simp [add_mid]
    rw [hA8] at h1
    have := Read_calls W (some ⟨b, off + 8, none⟩) (c - 8) ((l.drop 8).take 32) h1 (by rw [hl32]; omega) (by rw [hl32]; omega)
    rw [hl32] at this
    exact this)
  obtain ⟨v0, hv0⟩ : ∃ v, at8 lw l 8 = v := ⟨_, rfl⟩
  obtain ⟨v1, hv1⟩ : ∃ v, at8 lw l 16 = v := ⟨_, rfl⟩
  obtain ⟨v2, hv2⟩ : ∃ v, at8 lw l 24 = v := ⟨_, rfl⟩
  obtain ⟨v3, hv3⟩ : ∃ v, at8 lw l 32 = v := ⟨_, rfl⟩
  have HV : Hid (at8 lw l 8 = v0 ∧ at8 lw l 16 = v1 ∧ at8 lw l 24 = v2 ∧ at8 lw l 32 = v3) := Lib.hid ⟨hv0, hv1, hv2, hv3⟩
  clear hl2 hv0 hv1 hv2 hv3
  have HGD : Hid (∀ W, Calls Tryd.prog 105 #[.agg #[.bool false, .int .i64 v0, .int .i64 v2, .int .i64 v1, .int .i64 v3]] W fun e w' => e = .returned (.bool false) ∧ Bel W w') := Lib.hid (fun W => by
    have hbo : boxAt (bitB x3 1) l = ⟨false, v0, v2, v1, v3⟩ := by unfold boxAt; rw [hlw, HV.out.1, HV.out.2.1, HV.out.2.2.1, HV.out.2.2.2]
    rw [hx3, hbo] at hg
    have := good_calls ⟨false, v0, v2, v1, v3⟩ W
    rw [hg] at this
    exact this)
  clear hg
  try rw [hbf]
  obtain ⟨⟨gv, gb⟩, hgv⟩ : ∃ v, getV (l.drop 4) 4 lw = v := ⟨_, rfl⟩
  have hA4 : (if c = 4 then (some (⟨b, off, none⟩ : Addr)) else (some (⟨b, off, none⟩ : Addr)).map (fun x => x.add 4)) = some ⟨b, off + 4, none⟩ := by rw [if_neg hc4]; simp [add_mid]
  rw [hgv] at hG hsr
  have HG : Hid (∀ W, Bel w W → Calls Tryd.prog 103 #[.slice (some ⟨b, off + 4, none⟩) (t - 4) (c - 4), .int .i64 4, .bool lw] W fun e w' => e = .returned (.tuple #[.int .u64 gv, .bool gb]) ∧ W = w') := Lib.hid (fun W hh => by
    have := hG W hh
    rw [hA4, hl4] at this
    exact this)
  have hw32 : IntKind.i32.wrap gv = sr := by rw [IntKind.wrap_i32, ← hsr]; rfl
  have hw64 : IntKind.i64.wrap sr = sr := IntWalk.i64_in _ (by rw [← hsr]; show -9223372036854775808 ≤ w32 gv ∧ _; unfold w32; omega)
  subst hbf
  clear h hc hb hw ht hcell0 hA0 hxr hG hx3 hf hret hA4 hgv hsr hl4 hlw hem hbx hl hlt hcell
  have HZ := Lib.hid (Blk.new w #[.int .i64 0, .bool false, .bool false, .bool false, .bool false, .int .i64 0, .int .i64 0, .int .i64 0, .int .i64 0] 69)
  have HB0 : Hid (Bel w (w.alloc (.cells #[.int .i64 0, .bool false, .bool false, .bool false, .bool false, .int .i64 0, .int .i64 0, .int .i64 0, .int .i64 0] 69))) := Lib.hid ((Bel.refl w).alloc (Nat.le_refl _) _)
  go_enter Tryd.func77, Tryd.ntmps77
  go_upto_region 1 with (fail)
  obtain ⟨w1, hW⟩ : ∃ X, w.alloc (.cells #[.int .i64 0, .bool false, .bool false, .bool false, .bool false, .int .i64 0, .int .i64 0, .int .i64 0, .int .i64 0] 69) = X := ⟨_, rfl⟩
  rw [hW] at HZ HB0 ⊢
  clear hW
  obtain ⟨gr, hgr⟩ : ∃ x, w.heap.size = x := ⟨_, rfl⟩
  have HGR := Lib.hid hgr
  rw [hgr] at HZ ⊢
  clear hgr
  go_upto_region 7 with (first
    | (go_at_call 78; refine (none_lit w2).mono ?_; rintro e w3 ⟨rfl, b3⟩; have B3 := Lib.hid (bthen B2.out b3); have Z3 := Lib.hid (Blk.bel Z2.out b3); clear b3)
    | (go_at_call 102; refine (HWR.out w1 HB0.out).mono ?_; rintro e w2 ⟨rfl, b2⟩; have B2 := Lib.hid (bthen HB0.out b2); have Z2 := Lib.hid (Blk.bel HZ.out b2); have y3 : w2.cell? ⟨b, off + 3, none⟩ = some (.int .u8 x3) := kc (bthen HB0.out b2) HCELL.out; clear b2; obtain ⟨z0, z1, z2, z3, z4, z5, z6, z7, z8⟩ := Blk.cells9 Z2.out; have k0 := Z2.out.froz 0; have k1 := Z2.out.froz 1; have k2 := Z2.out.froz 2; have k3 := Z2.out.froz 3; have k4 := Z2.out.froz 4; have k5 := Z2.out.froz 5; have k6 := Z2.out.froz 6; have k7 := Z2.out.froz 7; have k8 := Z2.out.froz 8))
  have X4 := Blk.new w3 #[.int .i64 0, .bool lw, .bool true, .bool em, .bool true, .int .i64 0, .int .i64 0, .int .i64 0, .int .i64 0] 69
  have HB4 : Hid (Bel w3 (w3.alloc (.cells #[.int .i64 0, .bool lw, .bool true, .bool em, .bool true, .int .i64 0, .int .i64 0, .int .i64 0, .int .i64 0] 69))) := Lib.hid ((Bel.refl w3).alloc (Nat.le_refl _) _)
  obtain ⟨w4, hW⟩ : ∃ X, w3.alloc (.cells #[.int .i64 0, .bool lw, .bool true, .bool em, .bool true, .int .i64 0, .int .i64 0, .int .i64 0, .int .i64 0] 69) = X := ⟨_, rfl⟩
  rw [hW] at X4 HB4 ⊢
  clear hW
  obtain ⟨gh, hgh⟩ : ∃ x, w3.heap.size = x := ⟨_, rfl⟩
  rw [hgh] at X4 ⊢
  have HGG : Hid (gr < gh) := Lib.hid (by rw [← hgh]; exact Z3.out.lt)
  clear hgh z0 z1 z2 z3 z4 z5 z6 z7 z8 k0 k1 k2 k3 k4 k5 k6 k7 k8 y3
  have B4 := Lib.hid (bthen B3.out HB4.out)
  have Z4 := Lib.hid (Blk.bel Z3.out HB4.out)
  have HX4 := Lib.hid X4
  clear X4
  obtain ⟨x0, x1, x2, x3', x4, x5, x6, x7, x8⟩ := Blk.cells9 HX4.out
  go_region_law (first
    | (go_simp; go_at_call 103; refine (HG.out _ (bthen B4.out (Bel.drew _))).mono ?_; rintro e w9 ⟨rfl, rfl⟩))
  all_goals
    have X5 : Blk (w4.setCell ⟨gh, 0, none⟩ (.int .i64 sr)).drew gh #[.int .i64 sr, .bool lw, .bool true, .bool em, .bool true, .int .i64 0, .int .i64 0, .int .i64 0, .int .i64 0] 69 := (HX4.out.set 0 _).drew
    have B5 : Hid (Bel w (w4.setCell ⟨gh, 0, none⟩ (.int .i64 sr)).drew) := Lib.hid (bthen (below_set B4.out (by have := HGG.out; have := HGR.out; omega) _) (Bel.drew _))
    have Z5 : Hid (Blk (w4.setCell ⟨gh, 0, none⟩ (.int .i64 sr)).drew gr #[.int .i64 0, .bool false, .bool false, .bool false, .bool false, .int .i64 0, .int .i64 0, .int .i64 0, .int .i64 0] 69) := Lib.hid ((Z4.out.set_ne (i := 0) (by have := HGG.out; omega : gr ≠ gh) (.int .i64 sr)).drew)
    have f0 := HX4.out.froz 0
    go_upto_region 9 with (fail)
    obtain ⟨w5, hW⟩ : ∃ X, (w4.setCell ⟨gh, 0, none⟩ (.int .i64 sr)).drew = X := ⟨_, rfl⟩
    rw [hW] at X5 B5 Z5 ⊢
    clear hW x0 x1 x2 x3' x4 x5 x6 x7 x8 f0
    obtain ⟨x0, x1, x2, x3', x4, x5, x6, x7, x8⟩ := Blk.cells9 X5
    have HX5 := Lib.hid X5
    obtain ⟨z0, z1, z2, z3, z4, z5, z6, z7, z8⟩ := Blk.cells9 Z5.out
    have k0 := Z5.out.froz 0; have k1 := Z5.out.froz 1; have k2 := Z5.out.froz 2; have k3 := Z5.out.froz 3; have k4 := Z5.out.froz 4; have k5 := Z5.out.froz 5; have k6 := Z5.out.froz 6; have k7 := Z5.out.froz 7; have k8 := Z5.out.froz 8
    clear X5
    go_upto_region 14 with (go_at_call 73; refine (HRD.out w5 B5.out).mono ?_; rintro e w6 ⟨q, rfl, hq, b6, s6⟩)
    have B6 := Lib.hid (bthen B5.out b6)
    have HX6 := Lib.hid (Blk.bel HX5.out b6)
    have Z6 := Lib.hid (Blk.bel Z5.out b6)
    have HQ : Hid (w5.heap.size ≤ q) := Lib.hid hq
    have HS6 := Lib.hid s6
    clear hq b6 s6 x0 x1 x2 x3' x4 x5 x6 x7 x8 z0 z1 z2 z3 z4 z5 z6 z7 z8 k0 k1 k2 k3 k4 k5 k6 k7 k8
    have GA := Lib.hid (Blk.new w6 (arrK v0 v1 v2 v3 0) 99)
    have HB7 : Hid (Bel w6 (w6.alloc (.cells #[.int .i64 0, .int .i64 0, .int .i64 0, .int .i64 0] 99))) := Lib.hid ((Bel.refl w6).alloc (Nat.le_refl _) _)
    have GA : Hid (Blk (w6.alloc (.cells #[.int .i64 0, .int .i64 0, .int .i64 0, .int .i64 0] 99)) w6.heap.size (arrK v0 v1 v2 v3 0) 99) := GA
    go_upto_region 15 with (fail)
    obtain ⟨w7, hW⟩ : ∃ X, w6.alloc (.cells #[.int .i64 0, .int .i64 0, .int .i64 0, .int .i64 0] 99) = X := ⟨_, rfl⟩
    rw [hW] at GA HB7 ⊢
    clear hW
    have HQ6 : Hid (q < w6.heap.size) := Lib.hid HS6.out.lt
    obtain ⟨ga, hga⟩ : ∃ x, w6.heap.size = x := ⟨_, rfl⟩
    rw [hga] at GA HQ6 ⊢
    clear hga
    have HGH : Hid (gh < w5.heap.size ∧ gr < w5.heap.size ∧ w5.heap.size ≤ ga) := Lib.hid ⟨HX5.out.lt, Z5.out.lt, by have := HQ.out; have := HQ6.out; omega⟩
    have HX7 := Lib.hid (Blk.bel HX6.out HB7.out)
    have Z7 := Lib.hid (Blk.bel Z6.out HB7.out)
    have B7 := Lib.hid (bthen B6.out HB7.out)
    have HS7 := Lib.hid (HS6.out.below HB7.out)
    go_wp2
    go_loopw [58] (fun i wr => ∃ k : Nat, i = .int .i64 k ∧ k ≤ 4 ∧ Hid (Blk wr ga (arrK v0 v1 v2 v3 k) 99) ∧ Hid (Src wr q true (((l.drop 8).take 32).drop (8 * k)) 0) ∧ Hid (Below w5.heap.size w7 wr)) (fun i _ => 4 - (intOf i).toNat)
    case atStart => exact ⟨0, rfl, by omega, GA, Lib.hid (by simpa using HS7.out), Lib.hid (Below.refl _ _)⟩
    case round =>
      obtain ⟨k, rfl, hk, HA, HS, HBL⟩ := hrel
      have XR : Hid (Blk wr gh #[.int .i64 sr, .bool lw, .bool true, .bool em, .bool true, .int .i64 0, .int .i64 0, .int .i64 0, .int .i64 0] 69) := Lib.hid ((HBL.out.block gh HGH.out.1).trans HX7.out)
      have hx1 : wr.cell? ⟨gh, 1, none⟩ = some (.bool lw) := Blk.cell XR.out 1 rfl
      rcases (by omega : k = 0 ∨ k = 1 ∨ k = 2 ∨ k = 3 ∨ k = 4) with rfl | rfl | rfl | rfl | rfl
      · clear hk
        have HI := Lib.hid (int_at (lw := lw) HS.out HBY.out HLL.out (j := 0) (by omega))
        have hat : at8 lw l (8 + 8 * 0) = v0 := HV.out.1
        rw [hat] at HI
        clear hat
        go_wp2_with (go_at_call 104; refine (HI.out).mono ?_; rintro e w8 ⟨rfl, h8, s8⟩
                     have A8 : Blk w8 ga (arrK v0 v1 v2 v3 0) 99 := (h8.block ga HA.out.lt (fun e => by have := Option.some.inj e; have := HQ6.out; omega)).trans HA.out
                     have c8 : w8.cell? ⟨ga, 0, none⟩ = some (.int .i64 0) := A8.cell 0 rfl
                     have f8 := A8.froz 0
                     have HA8 := Lib.hid A8
                     have HB8 : Hid (Below w5.heap.size w7 w8) := Lib.hid (HBL.out.trans (bgrown h8 HQ.out (by have := HGH.out.2.2; have := HA.out.lt; omega)))
                     have HS8 := Lib.hid s8
                     clear A8 h8 s8)
        go_roundw
        case rel => exact ⟨1, by first | rfl | go_num, by omega, Lib.hid (HA8.out.set 0 _), Lib.hid (src_arr HS8.out HA8.out (by have := HQ6.out; omega) _), Lib.hid (below_set HB8.out HGH.out.2.2 _)⟩
        case measure => simp [intOf]
      · clear hk
        have HI := Lib.hid (int_at (lw := lw) HS.out HBY.out HLL.out (j := 1) (by omega))
        have hat : at8 lw l (8 + 8 * 1) = v1 := HV.out.2.1
        rw [hat] at HI
        clear hat
        go_wp2_with (go_at_call 104; refine (HI.out).mono ?_; rintro e w8 ⟨rfl, h8, s8⟩
                     have A8 : Blk w8 ga (arrK v0 v1 v2 v3 1) 99 := (h8.block ga HA.out.lt (fun e => by have := Option.some.inj e; have := HQ6.out; omega)).trans HA.out
                     have c8 : w8.cell? ⟨ga, 1, none⟩ = some (.int .i64 0) := A8.cell 1 rfl
                     have f8 := A8.froz 1
                     have HA8 := Lib.hid A8
                     have HB8 : Hid (Below w5.heap.size w7 w8) := Lib.hid (HBL.out.trans (bgrown h8 HQ.out (by have := HGH.out.2.2; have := HA.out.lt; omega)))
                     have HS8 := Lib.hid s8
                     clear A8 h8 s8)
        go_roundw
        case rel => exact ⟨2, by first | rfl | go_num, by omega, Lib.hid (HA8.out.set 1 _), Lib.hid (src_arr HS8.out HA8.out (by have := HQ6.out; omega) _), Lib.hid (below_set HB8.out HGH.out.2.2 _)⟩
        case measure => simp [intOf]
      · clear hk
        have HI := Lib.hid (int_at (lw := lw) HS.out HBY.out HLL.out (j := 2) (by omega))
        have hat : at8 lw l (8 + 8 * 2) = v2 := HV.out.2.2.1
        rw [hat] at HI
        clear hat
        go_wp2_with (go_at_call 104; refine (HI.out).mono ?_; rintro e w8 ⟨rfl, h8, s8⟩
                     have A8 : Blk w8 ga (arrK v0 v1 v2 v3 2) 99 := (h8.block ga HA.out.lt (fun e => by have := Option.some.inj e; have := HQ6.out; omega)).trans HA.out
                     have c8 : w8.cell? ⟨ga, 2, none⟩ = some (.int .i64 0) := A8.cell 2 rfl
                     have f8 := A8.froz 2
                     have HA8 := Lib.hid A8
                     have HB8 : Hid (Below w5.heap.size w7 w8) := Lib.hid (HBL.out.trans (bgrown h8 HQ.out (by have := HGH.out.2.2; have := HA.out.lt; omega)))
                     have HS8 := Lib.hid s8
                     clear A8 h8 s8)
        go_roundw
        case rel => exact ⟨3, by first | rfl | go_num, by omega, Lib.hid (HA8.out.set 2 _), Lib.hid (src_arr HS8.out HA8.out (by have := HQ6.out; omega) _), Lib.hid (below_set HB8.out HGH.out.2.2 _)⟩
        case measure => simp [intOf]
      · clear hk
        have HI := Lib.hid (int_at (lw := lw) HS.out HBY.out HLL.out (j := 3) (by omega))
        have hat : at8 lw l (8 + 8 * 3) = v3 := HV.out.2.2.2
        rw [hat] at HI
        clear hat
        go_wp2_with (go_at_call 104; refine (HI.out).mono ?_; rintro e w8 ⟨rfl, h8, s8⟩
                     have A8 : Blk w8 ga (arrK v0 v1 v2 v3 3) 99 := (h8.block ga HA.out.lt (fun e => by have := Option.some.inj e; have := HQ6.out; omega)).trans HA.out
                     have c8 : w8.cell? ⟨ga, 3, none⟩ = some (.int .i64 0) := A8.cell 3 rfl
                     have f8 := A8.froz 3
                     have HA8 := Lib.hid A8
                     have HB8 : Hid (Below w5.heap.size w7 w8) := Lib.hid (HBL.out.trans (bgrown h8 HQ.out (by have := HGH.out.2.2; have := HA.out.lt; omega)))
                     have HS8 := Lib.hid s8
                     clear A8 h8 s8)
        go_roundw
        case rel => exact ⟨4, by first | rfl | go_num, by omega, Lib.hid (HA8.out.set 3 _), Lib.hid (src_arr HS8.out HA8.out (by have := HQ6.out; omega) _), Lib.hid (below_set HB8.out HGH.out.2.2 _)⟩
        case measure => simp [intOf]
      · have AR : Blk wr ga #[.int .i64 v0, .int .i64 v1, .int .i64 v2, .int .i64 v3] 99 := HA.out
        obtain ⟨a0, a1, a2, a3⟩ : wr.cell? ⟨ga, 0, none⟩ = some (.int .i64 v0) ∧ wr.cell? ⟨ga, 1, none⟩ = some (.int .i64 v1) ∧ wr.cell? ⟨ga, 2, none⟩ = some (.int .i64 v2) ∧ wr.cell? ⟨ga, 3, none⟩ = some (.int .i64 v3) := ⟨AR.cell 0 rfl, AR.cell 1 rfl, AR.cell 2 rfl, AR.cell 3 rfl⟩
        have X9 := Blk.setB (e' := .bool false) (f' := .int .i64 v0) (h' := .int .i64 v2) (i' := .int .i64 v1) (j' := .int .i64 v3) XR.out
        have BR : Hid (Below w.heap.size w wr) := Lib.hid (B7.out.trans (HBL.out.mono (by have := B5.out.size; omega)))
        have B9 : Hid (Below w.heap.size w (((((wr.setCell ⟨gh, 4, none⟩ (.bool false)).setCell ⟨gh, 5, none⟩ (.int .i64 v0)).setCell ⟨gh, 6, none⟩ (.int .i64 v2)).setCell ⟨gh, 7, none⟩ (.int .i64 v1)).setCell ⟨gh, 8, none⟩ (.int .i64 v3))) := Lib.hid (by
          have hgw : w.heap.size ≤ gh := by have := HGG.out; have := HGR.out; omega
          exact below_set (below_set (below_set (below_set (below_set BR.out hgw _) hgw _) hgw _) hgw _) hgw _)
        have ZR := (HBL.out.block gr HGH.out.2.1).trans Z7.out
        have hne : gr ≠ gh := by have := HGG.out; omega
        have Z9 := Blk.set_ne (Blk.set_ne (Blk.set_ne (Blk.set_ne (Blk.set_ne (show Blk wr gr #[.int .i64 0, .bool false, .bool false, .bool false, .bool false, .int .i64 0, .int .i64 0, .int .i64 0, .int .i64 0] 69 from ZR) hne (i := 4) (.bool false)) hne (i := 5) (.int .i64 v0)) hne (i := 6) (.int .i64 v2)) hne (i := 7) (.int .i64 v1)) hne (i := 8) (.int .i64 v3)
        obtain ⟨x0, x1, x2, x3', x4, x5, x6, x7, x8⟩ := Blk.cells9 XR.out
        have f4 := XR.out.froz 4; have f5 := XR.out.froz 5; have f6 := XR.out.froz 6; have f7 := XR.out.froz 7; have f8 := XR.out.froz 8
        go_upto_region 21 with (fail)
        obtain ⟨w9, hW⟩ : ∃ X, ((((wr.setCell ⟨gh, 4, none⟩ (.bool false)).setCell ⟨gh, 5, none⟩ (.int .i64 v0)).setCell ⟨gh, 6, none⟩ (.int .i64 v2)).setCell ⟨gh, 7, none⟩ (.int .i64 v1)).setCell ⟨gh, 8, none⟩ (.int .i64 v3) = X := ⟨_, rfl⟩
        rw [hW] at X9 B9 Z9 ⊢
        clear hW x0 x1 x2 x3' x4 x5 x6 x7 x8 f4 f5 f6 f7 f8 a0 a1 a2 a3 hx1 hne AR ZR
        obtain ⟨x0, x1, x2, x3', x4, x5, x6, x7, x8⟩ := Blk.cells9 X9
        have HX9 := Lib.hid X9
        have HZ9 := Lib.hid Z9
        clear X9 Z9
        go_wp2_with (go_at_call 105; refine (HGD.out w9).mono ?_; rintro e w10 ⟨rfl, b10⟩
                     have B10 := Lib.hid (bthen B9.out b10)
                     have Z10 := Lib.hid (Blk.bel HZ9.out b10)
                     have X10 := Lib.hid (Blk.bel HX9.out b10)
                     clear b10 x0 x1 x2 x3' x4 x5 x6 x7 x8
                     obtain ⟨x0, x1, x2, x3', x4, x5, x6, x7, x8⟩ := Blk.cells9 X10.out
                     obtain ⟨z0, z1, z2, z3, z4, z5, z6, z7, z8⟩ := Blk.cells9 Z10.out
                     have k0 := Z10.out.froz 0; have k1 := Z10.out.froz 1; have k2 := Z10.out.froz 2; have k3 := Z10.out.froz 3; have k4 := Z10.out.froz 4; have k5 := Z10.out.froz 5; have k6 := Z10.out.froz 6; have k7 := Z10.out.froz 7; have k8 := Z10.out.froz 8)
        clear z0 z1 z2 z3 z4 z5 z6 z7 z8 k0 k1 k2 k3 k4 k5 k6 k7 k8
        obtain ⟨q0, q1, q2, q3, q4, q5, q6, q7, q8⟩ := Blk.cells9 (Blk.set9 (a' := .int .i64 0) (b' := .bool false) (c' := .bool false) (d' := .bool false) (e' := .bool false) (f' := .int .i64 0) (h' := .int .i64 0) (i' := .int .i64 0) (j' := .int .i64 0) Z10.out)
        unfold K.set9 at q0 q1 q2 q3 q4 q5 q6 q7 q8
        refine bodyPost_ret (v := .tuple #[.agg #[.int .i64 0, .bool false, .bool false, .bool false, .bool false, .int .i64 0, .int .i64 0, .int .i64 0, .int .i64 0], .int .i64 0, .int .i64 9]) (by simp [results, Tryd.results77, go_sem, Act.put, q0, q1, q2, q3, q4, q5, q6, q7, q8]) (by simp [Act.put]) ⟨rfl, below_set9 B10.out (by have := HGR.out; omega) _ _ _ _ _ _ _ _ _⟩
set_option maxHeartbeats 4000000 in
set_option maxRecDepth 100000 in
theorem peek_box_ok (w : World) (A : Option Addr) (c : Nat) (l : List Int) (h : CB w A l) (hc : l.length ≤ c) (hb : bytesOk l) (hw : wrongS l = false) (hl : ¬ l.length < 8) (hf : bitB (l.getD 3 0) 2 = true) (hl2 : ¬ l.length < 40) (hg : good (boxAt (bitB (l.getD 3 0) 1) l) = true) :
    Calls Tryd.prog 77 #[.slice A l.length c] w fun ex w' => ex = .returned (.tuple #[.agg (hdC { headS (l.getD 3 0) l with box := boxAt (bitB (l.getD 3 0) 1) l }), .int .i64 40, .int .i64 0]) ∧ Bel w w' := by
  have HC := Lib.hid h
  have HCN := Lib.hid hc
  have HBY := Lib.hid hb
  have HWR : Hid (∀ W, Bel w W → Calls Tryd.prog 102 #[.slice A l.length c] W fun e w' => e = .returned (.bool false) ∧ Bel W w') := Lib.hid (fun W hh => by
    have := wrong_calls W A c l (h.below hh) hc hb
    rw [hw] at this
    exact this)
  obtain ⟨x3, hx3⟩ : ∃ x, l.getD 3 0 = x := ⟨_, rfl⟩
  have hxr : 0 ≤ x3 ∧ x3 < 256 := by
    rw [← hx3, List.getD_eq_getElem?_getD, List.getElem?_eq_getElem (show 3 < l.length by omega)]
    exact hb _ (List.getElem_mem _)
  obtain ⟨ad, hA, hcell⟩ := h.at_ 3 (by omega)
  subst hA
  obtain ⟨ad0, hA0, hcell0⟩ := h.at_ 0 (by omega)
  obtain rfl := Option.some.inj hA0
  obtain ⟨b, off, rfl, hlt⟩ := add_none hcell0
  rw [add_mid, hx3] at hcell
  have HCELL := Lib.hid hcell
  obtain ⟨-, bt2, bt16, bt1⟩ := bits_flags x3 hxr
  obtain ⟨lw, hlw⟩ : ∃ v, bitB x3 1 = v := ⟨_, rfl⟩
  obtain ⟨bx, hbx⟩ : ∃ v, bitB x3 2 = v := ⟨_, rfl⟩
  obtain ⟨em, hem⟩ : ∃ v, bitB x3 16 = v := ⟨_, rfl⟩
  rw [hlw] at bt1
  rw [hbx] at bt2
  rw [hem] at bt16
  obtain ⟨sr, hsr⟩ : ∃ v, w32 (getV (l.drop 4) 4 lw).1 = v := ⟨_, rfl⟩
  have hG := fun W (hh : Bel w W) => octet_Get_calls _ (c - 4) (l.drop 4) 4 lw W ((h.below hh).drop 4 c (by omega) hc) (by rw [List.length_drop]; omega) (bytesOk_drop hb 4)
  have hl4 : (l.drop 4).length = l.length - 4 := List.length_drop
  obtain ⟨t, ht⟩ : ∃ t, l.length = t := ⟨_, rfl⟩
  rw [ht] at HWR HCN hl4 hl ⊢
  have hl8 : ¬ (t : Int) < 8 := by omega
  have h3t : (3 : Int) < (t : Int) := by omega
  have h4t : (4 : Int) ≤ (t : Int) := by omega
  have hc4 : ¬ c = 4 := by have := HCN.out; omega
  rw [hx3] at hf
  try rw [hx3]
  have hbf : bx = true := by rw [← hbx]; exact hf
  have hret : hdC (headS x3 l) = #[.int .i64 sr, .bool lw, .bool bx, .bool em, .bool true, .int .i64 0, .int .i64 0, .int .i64 0, .int .i64 0] := by
    unfold hdC headS
    rw [hlw, hbx, hem]
    simp only [hsr]
    rfl
  have h40 : ¬ (t : Int) < 40 := by rw [ht] at hl2; omega
  have HLL : Hid (40 ≤ l.length) := Lib.hid (by omega)
  have h40t : (40 : Int) ≤ (c : Int) := by have := HCN.out; rw [ht] at hl2; omega
  have h40u : 40 ≤ c := by have := HCN.out; rw [ht] at hl2; omega
  have hc8 : ¬ c = 8 := by omega
  have HRD : Hid (∀ W, Bel w W → Calls Tryd.prog 73 #[.slice (some ⟨b, off + 8, none⟩) 32 (c - 8)] W fun e w' => ∃ q, e = .returned (.pointer (some ⟨q, 0, none⟩)) ∧ W.heap.size ≤ q ∧ Bel W w' ∧ Src w' q true ((l.drop 8).take 32) 0) := Lib.hid (fun W hh => by
    have h1 := ((HC.out.below hh).drop 8 c (by omega) (by rw [ht]; exact HCN.out)).take 32 (by rw [List.length_drop]; omega)
    have hl32 : ((l.drop 8).take 32).length = 32 := by rw [List.length_take, List.length_drop]; omega
    rw [if_neg hc8] at h1
    have hA8 : (some (⟨b, off, none⟩ : Addr)).map (fun x => x.add 8) = some ⟨b, off + 8, none⟩ := by simp [add_mid]
    rw [hA8] at h1
    have := Read_calls W (some ⟨b, off + 8, none⟩) (c - 8) ((l.drop 8).take 32) h1 (by rw [hl32]; omega) (by rw [hl32]; omega)
    rw [hl32] at this
    exact this)
  obtain ⟨v0, hv0⟩ : ∃ v, at8 lw l 8 = v := ⟨_, rfl⟩
  obtain ⟨v1, hv1⟩ : ∃ v, at8 lw l 16 = v := ⟨_, rfl⟩
  obtain ⟨v2, hv2⟩ : ∃ v, at8 lw l 24 = v := ⟨_, rfl⟩
  obtain ⟨v3, hv3⟩ : ∃ v, at8 lw l 32 = v := ⟨_, rfl⟩
  have HV : Hid (at8 lw l 8 = v0 ∧ at8 lw l 16 = v1 ∧ at8 lw l 24 = v2 ∧ at8 lw l 32 = v3) := Lib.hid ⟨hv0, hv1, hv2, hv3⟩
  clear hl2 hv0 hv1 hv2 hv3
  have HGD : Hid (∀ W, Calls Tryd.prog 105 #[.agg #[.bool false, .int .i64 v0, .int .i64 v2, .int .i64 v1, .int .i64 v3]] W fun e w' => e = .returned (.bool true) ∧ Bel W w') := Lib.hid (fun W => by
    have hbo : boxAt (bitB x3 1) l = ⟨false, v0, v2, v1, v3⟩ := by unfold boxAt; rw [hlw, HV.out.1, HV.out.2.1, HV.out.2.2.1, HV.out.2.2.2]
    rw [hx3, hbo] at hg
    have := good_calls ⟨false, v0, v2, v1, v3⟩ W
    rw [hg] at this
    exact this)
  have hret : hdC { headS x3 l with box := boxAt (bitB x3 1) l } = #[.int .i64 sr, .bool lw, .bool true, .bool em, .bool false, .int .i64 v0, .int .i64 v2, .int .i64 v1, .int .i64 v3] := by
    have hbo : boxAt (bitB x3 1) l = ⟨false, v0, v2, v1, v3⟩ := by unfold boxAt; rw [hlw, HV.out.1, HV.out.2.1, HV.out.2.2.1, HV.out.2.2.2]
    rw [hbo]
    unfold hdC headS
    rw [hlw, hbx.trans hbf, hem]
    simp only [hsr]
  rw [hret]
  clear hret hg
  try rw [hbf]
  obtain ⟨⟨gv, gb⟩, hgv⟩ : ∃ v, getV (l.drop 4) 4 lw = v := ⟨_, rfl⟩
  have hA4 : (if c = 4 then (some (⟨b, off, none⟩ : Addr)) else (some (⟨b, off, none⟩ : Addr)).map (fun x => x.add 4)) = some ⟨b, off + 4, none⟩ := by rw [if_neg hc4]; simp [add_mid]
  rw [hgv] at hG hsr
  have HG : Hid (∀ W, Bel w W → Calls Tryd.prog 103 #[.slice (some ⟨b, off + 4, none⟩) (t - 4) (c - 4), .int .i64 4, .bool lw] W fun e w' => e = .returned (.tuple #[.int .u64 gv, .bool gb]) ∧ W = w') := Lib.hid (fun W hh => by
    have := hG W hh
    rw [hA4, hl4] at this
    exact this)
  have hw32 : IntKind.i32.wrap gv = sr := by rw [IntKind.wrap_i32, ← hsr]; rfl
  have hw64 : IntKind.i64.wrap sr = sr := IntWalk.i64_in _ (by rw [← hsr]; show -9223372036854775808 ≤ w32 gv ∧ _; unfold w32; omega)
  subst hbf
  clear h hc hb hw ht hcell0 hA0 hxr hG hx3 hf hret hA4 hgv hsr hl4 hlw hem hbx hl hlt hcell
  have HZ := Lib.hid (Blk.new w #[.int .i64 0, .bool false, .bool false, .bool false, .bool false, .int .i64 0, .int .i64 0, .int .i64 0, .int .i64 0] 69)
  have HB0 : Hid (Bel w (w.alloc (.cells #[.int .i64 0, .bool false, .bool false, .bool false, .bool false, .int .i64 0, .int .i64 0, .int .i64 0, .int .i64 0] 69))) := Lib.hid ((Bel.refl w).alloc (Nat.le_refl _) _)
  go_enter Tryd.func77, Tryd.ntmps77
  go_upto_region 1 with (fail)
  obtain ⟨w1, hW⟩ : ∃ X, w.alloc (.cells #[.int .i64 0, .bool false, .bool false, .bool false, .bool false, .int .i64 0, .int .i64 0, .int .i64 0, .int .i64 0] 69) = X := ⟨_, rfl⟩
  rw [hW] at HZ HB0 ⊢
  clear hW
  obtain ⟨gr, hgr⟩ : ∃ x, w.heap.size = x := ⟨_, rfl⟩
  have HGR := Lib.hid hgr
  rw [hgr] at HZ ⊢
  clear hgr
  go_upto_region 7 with (first
    | (go_at_call 78; refine (none_lit w2).mono ?_; rintro e w3 ⟨rfl, b3⟩; have B3 := Lib.hid (bthen B2.out b3); have Z3 := Lib.hid (Blk.bel Z2.out b3); clear b3)
    | (go_at_call 102; refine (HWR.out w1 HB0.out).mono ?_; rintro e w2 ⟨rfl, b2⟩; have B2 := Lib.hid (bthen HB0.out b2); have Z2 := Lib.hid (Blk.bel HZ.out b2); have y3 : w2.cell? ⟨b, off + 3, none⟩ = some (.int .u8 x3) := kc (bthen HB0.out b2) HCELL.out; clear b2; obtain ⟨z0, z1, z2, z3, z4, z5, z6, z7, z8⟩ := Blk.cells9 Z2.out; have k0 := Z2.out.froz 0; have k1 := Z2.out.froz 1; have k2 := Z2.out.froz 2; have k3 := Z2.out.froz 3; have k4 := Z2.out.froz 4; have k5 := Z2.out.froz 5; have k6 := Z2.out.froz 6; have k7 := Z2.out.froz 7; have k8 := Z2.out.froz 8))
  have X4 := Blk.new w3 #[.int .i64 0, .bool lw, .bool true, .bool em, .bool true, .int .i64 0, .int .i64 0, .int .i64 0, .int .i64 0] 69
  have HB4 : Hid (Bel w3 (w3.alloc (.cells #[.int .i64 0, .bool lw, .bool true, .bool em, .bool true, .int .i64 0, .int .i64 0, .int .i64 0, .int .i64 0] 69))) := Lib.hid ((Bel.refl w3).alloc (Nat.le_refl _) _)
  obtain ⟨w4, hW⟩ : ∃ X, w3.alloc (.cells #[.int .i64 0, .bool lw, .bool true, .bool em, .bool true, .int .i64 0, .int .i64 0, .int .i64 0, .int .i64 0] 69) = X := ⟨_, rfl⟩
  rw [hW] at X4 HB4 ⊢
  clear hW
  obtain ⟨gh, hgh⟩ : ∃ x, w3.heap.size = x := ⟨_, rfl⟩
  rw [hgh] at X4 ⊢
  have HGG : Hid (gr < gh) := Lib.hid (by rw [← hgh]; exact Z3.out.lt)
  clear hgh z0 z1 z2 z3 z4 z5 z6 z7 z8 k0 k1 k2 k3 k4 k5 k6 k7 k8 y3
  have B4 := Lib.hid (bthen B3.out HB4.out)
  have Z4 := Lib.hid (Blk.bel Z3.out HB4.out)
  have HX4 := Lib.hid X4
  clear X4
  obtain ⟨x0, x1, x2, x3', x4, x5, x6, x7, x8⟩ := Blk.cells9 HX4.out
  go_region_law (first
    | (go_simp; go_at_call 103; refine (HG.out _ (bthen B4.out (Bel.drew _))).mono ?_; rintro e w9 ⟨rfl, rfl⟩))
  all_goals
    have X5 : Blk (w4.setCell ⟨gh, 0, none⟩ (.int .i64 sr)).drew gh #[.int .i64 sr, .bool lw, .bool true, .bool em, .bool true, .int .i64 0, .int .i64 0, .int .i64 0, .int .i64 0] 69 := (HX4.out.set 0 _).drew
    have B5 : Hid (Bel w (w4.setCell ⟨gh, 0, none⟩ (.int .i64 sr)).drew) := Lib.hid (bthen (below_set B4.out (by have := HGG.out; have := HGR.out; omega) _) (Bel.drew _))
    have Z5 : Hid (Blk (w4.setCell ⟨gh, 0, none⟩ (.int .i64 sr)).drew gr #[.int .i64 0, .bool false, .bool false, .bool false, .bool false, .int .i64 0, .int .i64 0, .int .i64 0, .int .i64 0] 69) := Lib.hid ((Z4.out.set_ne (i := 0) (by have := HGG.out; omega : gr ≠ gh) (.int .i64 sr)).drew)
    have f0 := HX4.out.froz 0
    go_upto_region 9 with (fail)
    obtain ⟨w5, hW⟩ : ∃ X, (w4.setCell ⟨gh, 0, none⟩ (.int .i64 sr)).drew = X := ⟨_, rfl⟩
    rw [hW] at X5 B5 Z5 ⊢
    clear hW x0 x1 x2 x3' x4 x5 x6 x7 x8 f0
    obtain ⟨x0, x1, x2, x3', x4, x5, x6, x7, x8⟩ := Blk.cells9 X5
    have HX5 := Lib.hid X5
    obtain ⟨z0, z1, z2, z3, z4, z5, z6, z7, z8⟩ := Blk.cells9 Z5.out
    have k0 := Z5.out.froz 0; have k1 := Z5.out.froz 1; have k2 := Z5.out.froz 2; have k3 := Z5.out.froz 3; have k4 := Z5.out.froz 4; have k5 := Z5.out.froz 5; have k6 := Z5.out.froz 6; have k7 := Z5.out.froz 7; have k8 := Z5.out.froz 8
    clear X5
    go_upto_region 14 with (go_at_call 73; refine (HRD.out w5 B5.out).mono ?_; rintro e w6 ⟨q, rfl, hq, b6, s6⟩)
    have B6 := Lib.hid (bthen B5.out b6)
    have HX6 := Lib.hid (Blk.bel HX5.out b6)
    have Z6 := Lib.hid (Blk.bel Z5.out b6)
    have HQ : Hid (w5.heap.size ≤ q) := Lib.hid hq
    have HS6 := Lib.hid s6
    clear hq b6 s6 x0 x1 x2 x3' x4 x5 x6 x7 x8 z0 z1 z2 z3 z4 z5 z6 z7 z8 k0 k1 k2 k3 k4 k5 k6 k7 k8
    have GA := Lib.hid (Blk.new w6 (arrK v0 v1 v2 v3 0) 99)
    have HB7 : Hid (Bel w6 (w6.alloc (.cells #[.int .i64 0, .int .i64 0, .int .i64 0, .int .i64 0] 99))) := Lib.hid ((Bel.refl w6).alloc (Nat.le_refl _) _)
    have GA : Hid (Blk (w6.alloc (.cells #[.int .i64 0, .int .i64 0, .int .i64 0, .int .i64 0] 99)) w6.heap.size (arrK v0 v1 v2 v3 0) 99) := GA
    go_upto_region 15 with (fail)
    obtain ⟨w7, hW⟩ : ∃ X, w6.alloc (.cells #[.int .i64 0, .int .i64 0, .int .i64 0, .int .i64 0] 99) = X := ⟨_, rfl⟩
    rw [hW] at GA HB7 ⊢
    clear hW
    have HQ6 : Hid (q < w6.heap.size) := Lib.hid HS6.out.lt
    obtain ⟨ga, hga⟩ : ∃ x, w6.heap.size = x := ⟨_, rfl⟩
    rw [hga] at GA HQ6 ⊢
    clear hga
    have HGH : Hid (gh < w5.heap.size ∧ gr < w5.heap.size ∧ w5.heap.size ≤ ga) := Lib.hid ⟨HX5.out.lt, Z5.out.lt, by have := HQ.out; have := HQ6.out; omega⟩
    have HX7 := Lib.hid (Blk.bel HX6.out HB7.out)
    have Z7 := Lib.hid (Blk.bel Z6.out HB7.out)
    have B7 := Lib.hid (bthen B6.out HB7.out)
    have HS7 := Lib.hid (HS6.out.below HB7.out)
    go_wp2
    go_loopw [58] (fun i wr => ∃ k : Nat, i = .int .i64 k ∧ k ≤ 4 ∧ Hid (Blk wr ga (arrK v0 v1 v2 v3 k) 99) ∧ Hid (Src wr q true (((l.drop 8).take 32).drop (8 * k)) 0) ∧ Hid (Below w5.heap.size w7 wr)) (fun i _ => 4 - (intOf i).toNat)
    case atStart => exact ⟨0, rfl, by omega, GA, Lib.hid (by simpa using HS7.out), Lib.hid (Below.refl _ _)⟩
    case round =>
      obtain ⟨k, rfl, hk, HA, HS, HBL⟩ := hrel
      have XR : Hid (Blk wr gh #[.int .i64 sr, .bool lw, .bool true, .bool em, .bool true, .int .i64 0, .int .i64 0, .int .i64 0, .int .i64 0] 69) := Lib.hid ((HBL.out.block gh HGH.out.1).trans HX7.out)
      have hx1 : wr.cell? ⟨gh, 1, none⟩ = some (.bool lw) := Blk.cell XR.out 1 rfl
      rcases (by omega : k = 0 ∨ k = 1 ∨ k = 2 ∨ k = 3 ∨ k = 4) with rfl | rfl | rfl | rfl | rfl
      · clear hk
        have HI := Lib.hid (int_at (lw := lw) HS.out HBY.out HLL.out (j := 0) (by omega))
        have hat : at8 lw l (8 + 8 * 0) = v0 := HV.out.1
        rw [hat] at HI
        clear hat
        go_wp2_with (go_at_call 104; refine (HI.out).mono ?_; rintro e w8 ⟨rfl, h8, s8⟩
                     have A8 : Blk w8 ga (arrK v0 v1 v2 v3 0) 99 := (h8.block ga HA.out.lt (fun e => by have := Option.some.inj e; have := HQ6.out; omega)).trans HA.out
                     have c8 : w8.cell? ⟨ga, 0, none⟩ = some (.int .i64 0) := A8.cell 0 rfl
                     have f8 := A8.froz 0
                     have HA8 := Lib.hid A8
                     have HB8 : Hid (Below w5.heap.size w7 w8) := Lib.hid (HBL.out.trans (bgrown h8 HQ.out (by have := HGH.out.2.2; have := HA.out.lt; omega)))
                     have HS8 := Lib.hid s8
                     clear A8 h8 s8)
        go_roundw
        case rel => exact ⟨1, by first | rfl | go_num, by omega, Lib.hid (HA8.out.set 0 _), Lib.hid (src_arr HS8.out HA8.out (by have := HQ6.out; omega) _), Lib.hid (below_set HB8.out HGH.out.2.2 _)⟩
        case measure => simp [intOf]
      · clear hk
        have HI := Lib.hid (int_at (lw := lw) HS.out HBY.out HLL.out (j := 1) (by omega))
        have hat : at8 lw l (8 + 8 * 1) = v1 := HV.out.2.1
        rw [hat] at HI
        clear hat
        go_wp2_with (go_at_call 104; refine (HI.out).mono ?_; rintro e w8 ⟨rfl, h8, s8⟩
                     have A8 : Blk w8 ga (arrK v0 v1 v2 v3 1) 99 := (h8.block ga HA.out.lt (fun e => by have := Option.some.inj e; have := HQ6.out; omega)).trans HA.out
                     have c8 : w8.cell? ⟨ga, 1, none⟩ = some (.int .i64 0) := A8.cell 1 rfl
                     have f8 := A8.froz 1
                     have HA8 := Lib.hid A8
                     have HB8 : Hid (Below w5.heap.size w7 w8) := Lib.hid (HBL.out.trans (bgrown h8 HQ.out (by have := HGH.out.2.2; have := HA.out.lt; omega)))
                     have HS8 := Lib.hid s8
                     clear A8 h8 s8)
        go_roundw
        case rel => exact ⟨2, by first | rfl | go_num, by omega, Lib.hid (HA8.out.set 1 _), Lib.hid (src_arr HS8.out HA8.out (by have := HQ6.out; omega) _), Lib.hid (below_set HB8.out HGH.out.2.2 _)⟩
        case measure => simp [intOf]
      · clear hk
        have HI := Lib.hid (int_at (lw := lw) HS.out HBY.out HLL.out (j := 2) (by omega))
        have hat : at8 lw l (8 + 8 * 2) = v2 := HV.out.2.2.1
        rw [hat] at HI
        clear hat
        go_wp2_with (go_at_call 104; refine (HI.out).mono ?_; rintro e w8 ⟨rfl, h8, s8⟩
                     have A8 : Blk w8 ga (arrK v0 v1 v2 v3 2) 99 := (h8.block ga HA.out.lt (fun e => by have := Option.some.inj e; have := HQ6.out; omega)).trans HA.out
                     have c8 : w8.cell? ⟨ga, 2, none⟩ = some (.int .i64 0) := A8.cell 2 rfl
                     have f8 := A8.froz 2
                     have HA8 := Lib.hid A8
                     have HB8 : Hid (Below w5.heap.size w7 w8) := Lib.hid (HBL.out.trans (bgrown h8 HQ.out (by have := HGH.out.2.2; have := HA.out.lt; omega)))
                     have HS8 := Lib.hid s8
                     clear A8 h8 s8)
        go_roundw
        case rel => exact ⟨3, by first | rfl | go_num, by omega, Lib.hid (HA8.out.set 2 _), Lib.hid (src_arr HS8.out HA8.out (by have := HQ6.out; omega) _), Lib.hid (below_set HB8.out HGH.out.2.2 _)⟩
        case measure => simp [intOf]
      · clear hk
        have HI := Lib.hid (int_at (lw := lw) HS.out HBY.out HLL.out (j := 3) (by omega))
        have hat : at8 lw l (8 + 8 * 3) = v3 := HV.out.2.2.2
        rw [hat] at HI
        clear hat
        go_wp2_with (go_at_call 104; refine (HI.out).mono ?_; rintro e w8 ⟨rfl, h8, s8⟩
                     have A8 : Blk w8 ga (arrK v0 v1 v2 v3 3) 99 := (h8.block ga HA.out.lt (fun e => by have := Option.some.inj e; have := HQ6.out; omega)).trans HA.out
                     have c8 : w8.cell? ⟨ga, 3, none⟩ = some (.int .i64 0) := A8.cell 3 rfl
                     have f8 := A8.froz 3
                     have HA8 := Lib.hid A8
                     have HB8 : Hid (Below w5.heap.size w7 w8) := Lib.hid (HBL.out.trans (bgrown h8 HQ.out (by have := HGH.out.2.2; have := HA.out.lt; omega)))
                     have HS8 := Lib.hid s8
                     clear A8 h8 s8)
        go_roundw
        case rel => exact ⟨4, by first | rfl | go_num, by omega, Lib.hid (HA8.out.set 3 _), Lib.hid (src_arr HS8.out HA8.out (by have := HQ6.out; omega) _), Lib.hid (below_set HB8.out HGH.out.2.2 _)⟩
        case measure => simp [intOf]
      · have AR : Blk wr ga #[.int .i64 v0, .int .i64 v1, .int .i64 v2, .int .i64 v3] 99 := HA.out
        obtain ⟨a0, a1, a2, a3⟩ : wr.cell? ⟨ga, 0, none⟩ = some (.int .i64 v0) ∧ wr.cell? ⟨ga, 1, none⟩ = some (.int .i64 v1) ∧ wr.cell? ⟨ga, 2, none⟩ = some (.int .i64 v2) ∧ wr.cell? ⟨ga, 3, none⟩ = some (.int .i64 v3) := ⟨AR.cell 0 rfl, AR.cell 1 rfl, AR.cell 2 rfl, AR.cell 3 rfl⟩
        have X9 := Blk.setB (e' := .bool false) (f' := .int .i64 v0) (h' := .int .i64 v2) (i' := .int .i64 v1) (j' := .int .i64 v3) XR.out
        have BR : Hid (Below w.heap.size w wr) := Lib.hid (B7.out.trans (HBL.out.mono (by have := B5.out.size; omega)))
        have B9 : Hid (Below w.heap.size w (((((wr.setCell ⟨gh, 4, none⟩ (.bool false)).setCell ⟨gh, 5, none⟩ (.int .i64 v0)).setCell ⟨gh, 6, none⟩ (.int .i64 v2)).setCell ⟨gh, 7, none⟩ (.int .i64 v1)).setCell ⟨gh, 8, none⟩ (.int .i64 v3))) := Lib.hid (by
          have hgw : w.heap.size ≤ gh := by have := HGG.out; have := HGR.out; omega
          exact below_set (below_set (below_set (below_set (below_set BR.out hgw _) hgw _) hgw _) hgw _) hgw _)
        have ZR := (HBL.out.block gr HGH.out.2.1).trans Z7.out
        have hne : gr ≠ gh := by have := HGG.out; omega
        have Z9 := Blk.set_ne (Blk.set_ne (Blk.set_ne (Blk.set_ne (Blk.set_ne (show Blk wr gr #[.int .i64 0, .bool false, .bool false, .bool false, .bool false, .int .i64 0, .int .i64 0, .int .i64 0, .int .i64 0] 69 from ZR) hne (i := 4) (.bool false)) hne (i := 5) (.int .i64 v0)) hne (i := 6) (.int .i64 v2)) hne (i := 7) (.int .i64 v1)) hne (i := 8) (.int .i64 v3)
        obtain ⟨x0, x1, x2, x3', x4, x5, x6, x7, x8⟩ := Blk.cells9 XR.out
        have f4 := XR.out.froz 4; have f5 := XR.out.froz 5; have f6 := XR.out.froz 6; have f7 := XR.out.froz 7; have f8 := XR.out.froz 8
        go_upto_region 21 with (fail)
        obtain ⟨w9, hW⟩ : ∃ X, ((((wr.setCell ⟨gh, 4, none⟩ (.bool false)).setCell ⟨gh, 5, none⟩ (.int .i64 v0)).setCell ⟨gh, 6, none⟩ (.int .i64 v2)).setCell ⟨gh, 7, none⟩ (.int .i64 v1)).setCell ⟨gh, 8, none⟩ (.int .i64 v3) = X := ⟨_, rfl⟩
        rw [hW] at X9 B9 Z9 ⊢
        clear hW x0 x1 x2 x3' x4 x5 x6 x7 x8 f4 f5 f6 f7 f8 a0 a1 a2 a3 hx1 hne AR ZR
        obtain ⟨x0, x1, x2, x3', x4, x5, x6, x7, x8⟩ := Blk.cells9 X9
        have HX9 := Lib.hid X9
        have HZ9 := Lib.hid Z9
        clear X9 Z9
        go_wp2_with (go_at_call 105; refine (HGD.out w9).mono ?_; rintro e w10 ⟨rfl, b10⟩
                     have B10 := Lib.hid (bthen B9.out b10)
                     have Z10 := Lib.hid (Blk.bel HZ9.out b10)
                     have X10 := Lib.hid (Blk.bel HX9.out b10)
                     clear b10 x0 x1 x2 x3' x4 x5 x6 x7 x8
                     obtain ⟨x0, x1, x2, x3', x4, x5, x6, x7, x8⟩ := Blk.cells9 X10.out
                     obtain ⟨z0, z1, z2, z3, z4, z5, z6, z7, z8⟩ := Blk.cells9 Z10.out
                     have k0 := Z10.out.froz 0; have k1 := Z10.out.froz 1; have k2 := Z10.out.froz 2; have k3 := Z10.out.froz 3; have k4 := Z10.out.froz 4; have k5 := Z10.out.froz 5; have k6 := Z10.out.froz 6; have k7 := Z10.out.froz 7; have k8 := Z10.out.froz 8)
        clear z0 z1 z2 z3 z4 z5 z6 z7 z8 k0 k1 k2 k3 k4 k5 k6 k7 k8
        obtain ⟨q0, q1, q2, q3, q4, q5, q6, q7, q8⟩ := Blk.cells9 (Blk.set9 (a' := .int .i64 sr) (b' := .bool lw) (c' := .bool true) (d' := .bool em) (e' := .bool false) (f' := .int .i64 v0) (h' := .int .i64 v2) (i' := .int .i64 v1) (j' := .int .i64 v3) Z10.out)
        unfold K.set9 at q0 q1 q2 q3 q4 q5 q6 q7 q8
        refine bodyPost_ret (v := .tuple #[.agg #[.int .i64 sr, .bool lw, .bool true, .bool em, .bool false, .int .i64 v0, .int .i64 v2, .int .i64 v1, .int .i64 v3], .int .i64 40, .int .i64 0]) (by simp [results, Tryd.results77, go_sem, Act.put, q0, q1, q2, q3, q4, q5, q6, q7, q8]) (by simp [Act.put]) ⟨rfl, below_set9 B10.out (by have := HGR.out; omega) _ _ _ _ _ _ _ _ _⟩
/-- blob.Peek -/
theorem peek_calls (w : World) (A : Option Addr) (c : Nat) (l : List Int) (h : CB w A l) (hc : l.length ≤ c) (hb : bytesOk l) :
    Calls Tryd.prog 77 #[.slice A l.length c] w fun ex w' => (match peekS l with | .bad e => ex = .returned (.tuple #[.agg (hdC hd0), .int .i64 0, .int .i64 e]) | .ok hd n => ex = .returned (.tuple #[.agg (hdC hd), .int .i64 n, .int .i64 0])) ∧ Bel w w' := by
  unfold peekS
  by_cases hw : wrongS l = true
  · rw [if_pos hw]; exact peek_wrong w A c l h hc hb hw
  have hw : wrongS l = false := by simpa using hw
  rw [if_neg (by rw [hw]; decide)]
  by_cases hl : l.length < 8
  · rw [if_pos hl]; exact peek_len w A c l h hc hb hw hl
  rw [if_neg hl]
  by_cases hf : bitB (l.getD 3 0) 2 = false
  · rw [if_pos hf]; exact peek_plain w A c l h hc hb hw hl hf
  rw [if_neg hf]
  have hf : bitB (l.getD 3 0) 2 = true := by simpa using hf
  by_cases hl2 : l.length < 40
  · rw [if_pos hl2]; exact peek_cut w A c l h hc hb hw hl hf hl2
  rw [if_neg hl2]
  by_cases hg : good (boxAt (bitB (l.getD 3 0) 1) l) = true
  · rw [if_pos hg]; exact peek_box_ok w A c l h hc hb hw hl hf hl2 hg
  · rw [if_neg hg]; exact peek_box_bad w A c l h hc hb hw hl hf hl2 (by simpa using hg)
end Go.Proofs.YtfknhpgelleenaaDoor.K
end
