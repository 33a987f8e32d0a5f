/- What a claim leans on, part 50, cut by a program out of the texts WCanon16. -/
import Derived.Handy
import Derived.Test.YtfknhpgelleenaaDoorZB4
import Derived.Test.YtfknhpgelleenaaDoorZB24
import Derived.Test.YtfknhpgelleenaaDoorZB26
import Derived.Test.YtfknhpgelleenaaDoorZB40
import Derived.Test.YtfknhpgelleenaaDoorZB41
import Derived.Test.YtfknhpgelleenaaDoorZB42
import Derived.Test.YtfknhpgelleenaaDoorZB43
import Derived.Test.YtfknhpgelleenaaDoorZB44
import Derived.Test.YtfknhpgelleenaaDoorZB47
section
namespace Go.Proofs.YtfknhpgelleenaaDoor.K
open Go Go.RowKit Go.Proofs.YtfknhpgelleenaaDoorW.PrintWords Go.Proofs.YtfknhpgelleenaaDoorW.PrintLast Go.Proofs.YtfknhpgelleenaaDoorW.PrintMore
set_option linter.unusedVariables false
set_option linter.unusedSimpArgs false
open Go.Proofs.YtfknhpgelleenaaDoor.MPeek
open Go.Proofs.YtfknhpgelleenaaDoor.MBox (noneB zeroB good)
open Go.Proofs.YtfknhpgelleenaaDoor.MShape (Sh)
open Go.Proofs.YtfknhpgelleenaaDoor.MRead (readS inS inI)
set_option maxHeartbeats 8000000 in
set_option maxRecDepth 100000 in
theorem canon_bad (w : World) (A : Option Addr) (c : Nat) (l : List Int) (h : CB w A l) (hc : l.length ≤ c) (hb : bytesOk l) (hlen : l.length < 100000000000) (hGl : Gl w) {e : Int} (ho : openS boxOf l = .bad e) (hne : e ≠ 0) :
    Calls Tryd.prog 48 #[.slice A l.length c] w fun ex w' => ex = .returned (.tuple #[.slice none 0 0, .int .i64 e]) ∧ Bel w w' := by
  have HOP := Lib.hid (open_none w A c l h hc hb hlen hGl ho)
  obtain ⟨t, ht⟩ : ∃ t, l.length = t := ⟨_, rfl⟩
  rw [ht] at HOP ⊢
  have he1 : (e == 0) = false := by simpa using hne
  have he2 : (e != 0) = true := by simpa using hne
  clear h hc hb hlen hGl ho hne ht
  go_enter Tryd.func48, Tryd.ntmps48
  go_upto_region 2 with (go_at_call 46; refine (HOP.out).mono ?_; rintro ex w3 ⟨rfl, b3⟩; have B3 := Lib.hid (bthen b3 (((Bel.refl w3).alloc (Nat.le_refl _) (.cells #[.int .i64 0, .bool false, .bool false, .bool false, .bool false, .int .i64 0, .int .i64 0, .int .i64 0, .int .i64 0] 69)).alloc (by simp) (.cells #[.int .i64 0, .slice none 0 0, .slice none 0 0] 25))); clear b3)
  go_wp2
  refine ⟨rfl, .tuple #[.slice none 0 0, .int .i64 e], ?_, rfl, B3.out⟩
  simp [results, Tryd.results48, go_sem]
set_option maxHeartbeats 8000000 in
set_option maxRecDepth 100000 in
theorem canon_good (w : World) (A : Option Addr) (c : Nat) (l : List Int) (h : CB w A l) (hc : l.length ≤ c) (hb : bytesOk l) (hlen : l.length < 100000000000) (hGl : Gl w) {hd : Hd} {s : Sh} (ho : openS boxOf l = .ok hd s) :
    Calls Tryd.prog 48 #[.slice A l.length c] w fun ex w' => ∃ v, ex = .returned (.tuple #[v, .int .i64 0]) ∧ Hid (RB w w' v (blobB false true hd.srs s)) ∧ Hid (Bel w w') := by
  have HOP : Hid (Calls Tryd.prog 46 #[.slice A l.length c] w fun ex w' => ∃ k0 B1 m1 e1 B2 m2 e2, ex = .returned (.tuple #[.agg #[.int .i64 hd.srs, .bool hd.low, .bool hd.bx, .bool hd.em, .bool hd.box.no, .int .i64 hd.box.lx, .int .i64 hd.box.ly, .int .i64 hd.box.hx, .int .i64 hd.box.hy], .agg #[.int .i64 k0, .slice B1 m1 e1, .slice B2 m2 e2], .int .i64 0]) ∧ Hid (KW.M w' w.heap.size (fun _ => True) s [.int .i64 k0, .slice B1 m1 e1, .slice B2 m2 e2]) ∧ Hid (Bel w w')) := Lib.hid (open_good w A c l h hc hb hlen hGl ho)
  have HGL := Lib.hid hGl
  obtain ⟨t, ht⟩ : ∃ t, l.length = t := ⟨_, rfl⟩
  rw [ht] at HOP ⊢
  obtain ⟨srs, hl, hx, he, b⟩ := hd
  dsimp only at HOP ⊢
  clear h hc hb hlen hGl ho ht
  go_enter Tryd.func48, Tryd.ntmps48
  go_upto_region 2 with (go_at_call 46; refine (HOP.out).mono ?_; rintro ex w3 ⟨k0, B1, m1, e1, B2, m2, e2, rfl, hM, b3⟩)
  have XD := (Blk.new w3 #[.int .i64 srs, .bool hl, .bool hx, .bool he, .bool b.no, .int .i64 b.lx, .int .i64 b.ly, .int .i64 b.hx, .int .i64 b.hy] 69).alloc (.cells #[.int .i64 k0, .slice B1 m1 e1, .slice B2 m2 e2] 25)
  have XS := Blk.new_at (W := w3.alloc (.cells #[.int .i64 srs, .bool hl, .bool hx, .bool he, .bool b.no, .int .i64 b.lx, .int .i64 b.ly, .int .i64 b.hx, .int .i64 b.hy] 69)) (g := w3.heap.size + 1) (by simp) #[.int .i64 k0, .slice B1 m1 e1, .slice B2 m2 e2] 25
  have HB4 : Hid (Bel w3 ((w3.alloc (.cells #[.int .i64 srs, .bool hl, .bool hx, .bool he, .bool b.no, .int .i64 b.lx, .int .i64 b.ly, .int .i64 b.hx, .int .i64 b.hy] 69)).alloc (.cells #[.int .i64 k0, .slice B1 m1 e1, .slice B2 m2 e2] 25))) := Lib.hid (((Bel.refl w3).alloc (Nat.le_refl _) _).alloc (by simp) _)
  obtain ⟨w4, hW⟩ : ∃ Y, (w3.alloc (.cells #[.int .i64 srs, .bool hl, .bool hx, .bool he, .bool b.no, .int .i64 b.lx, .int .i64 b.ly, .int .i64 b.hx, .int .i64 b.hy] 69)).alloc (.cells #[.int .i64 k0, .slice B1 m1 e1, .slice B2 m2 e2] 25) = Y := ⟨_, rfl⟩
  rw [hW] at XD XS HB4 ⊢
  clear hW
  have B4 := Lib.hid (bthen b3.out HB4.out)
  have HM4 : Hid (∃ dd, ShB w4.heap.size w4 dd (.int .i64 k0, .slice B1 m1 e1, .slice B2 m2 e2) s) := Lib.hid (by
    obtain ⟨dd, hm⟩ := Kd.M_below (d := KW) hM.out HB4.out
    exact ⟨dd, MW.shB (c := (.int .i64 k0, .slice B1 m1 e1, .slice B2 m2 e2)) hm⟩)
  have HMK : Hid (Calls Tryd.prog 39 #[.agg #[.int .i64 k0, .slice B1 m1 e1, .slice B2 m2 e2], .int .i64 srs, .bool false, .bool true] w4 fun e w' => ∃ v, e = .returned v ∧ Hid (RB w4 w' v (blobB false true srs s)) ∧ Hid (Bel w4 w')) := Lib.hid (by
    obtain ⟨dd, hsh⟩ := HM4.out
    exact make_calls dd s (.int .i64 k0, .slice B1 m1 e1, .slice B2 m2 e2) srs false true w4 w4.heap.size (Nat.le_refl _) (Nat.le_trans HGL.out.2.2 B4.out.size) hsh (HGL.out.1.bel B4.out) (HGL.out.2.1.below HGL.out.2.2 B4.out))
  obtain ⟨gd, hgd⟩ : ∃ x, w3.heap.size = x := ⟨_, rfl⟩
  rw [hgd] at XD XS ⊢
  obtain ⟨gx, hgx⟩ : ∃ x, gd + 1 = x := ⟨_, rfl⟩
  rw [hgx] at XS ⊢
  clear hgd hgx hM b3
  obtain ⟨x0, x1, x2⟩ := Blk.cells3 XS
  obtain ⟨d0, d1, d2, d3, d4, d5, d6, d7, d8⟩ := Blk.cells9 XD
  clear XD XS
  go_wp2_with (go_at_call 39; refine (HMK.out).mono ?_; rintro e w6 ⟨v, rfl, hr, hb⟩; have HRV := Lib.hid (hr.out.lower (w0 := w) B4.out.size); have B6 := Lib.hid (bthen B4.out hb.out); clear hr hb)
  refine ⟨rfl, .tuple #[v, .int .i64 0], ?_, v, rfl, HRV, B6⟩
  simp [results, Tryd.results48, go_sem]
theorem open_len {F : List (Int × Int) → MBox.Bx} {l : List Int} {hd : Hd} {s : Sh} (h : openS F l = .ok hd s) : 17 ≤ l.length := by
  obtain ⟨k, hp, h1, h2, h3⟩ := open_ok h
  obtain ⟨a, b, c, f, R, rfl, hR, hlo, hsr, hk⟩ := peek_parts hp
  have h4 := (MRead.read_is h1).2 false
  have h5 := MRead.enc_len9 false (readS ((a :: b :: c :: f :: R).drop k)).1
  rw [h4, List.length_drop] at h5
  rcases hk with rfl | rfl <;> omega
set_option maxHeartbeats 8000000 in
set_option maxRecDepth 100000 in
theorem retag_bad (w : World) (A : Option Addr) (c : Nat) (l : List Int) (srs : Int) (h : CB w A l) (hc : l.length ≤ c) (hb : bytesOk l) (hlen : l.length < 1000000) (hGl : Gl w) {e : Int} (ho : openS boxOf l = .bad e) (hne : e ≠ 0) :
    Calls Tryd.prog 49 #[.slice A l.length c, .int .i64 srs] w fun ex w' => ex = .returned (.tuple #[.slice none 0 0, .int .i64 e]) ∧ Bel w w' := by
  have HOP := Lib.hid (open_none w A c l h hc hb (by omega) hGl ho)
  have he1 : (e == 0) = false := by simpa using hne
  have he2 : (e != 0) = true := by simpa using hne
  obtain ⟨t, ht⟩ : ∃ t, l.length = t := ⟨_, rfl⟩
  rw [ht] at HOP ⊢
  clear h hc hb hlen hGl ho hne ht
  go_enter Tryd.func49, Tryd.ntmps49
  go_wp2_with (go_at_call 46; refine (HOP.out).mono ?_; rintro ex w3 ⟨rfl, b3⟩; have B3 := Lib.hid (bthen b3 (((Bel.refl w3).alloc (Nat.le_refl _) (.cells #[.int .i64 0, .bool false, .bool false, .bool false, .bool false, .int .i64 0, .int .i64 0, .int .i64 0, .int .i64 0] 69)).alloc (by simp) (.cells #[.int .i64 0, .slice none 0 0, .slice none 0 0] 25))); clear b3)
  refine ⟨rfl, .tuple #[.slice none 0 0, .int .i64 e], ?_, rfl, B3.out⟩
  simp [results, Tryd.results49, go_sem]
set_option maxHeartbeats 8000000 in
set_option maxRecDepth 100000 in
theorem retag_arg (w : World) (A : Option Addr) (c : Nat) (l : List Int) (srs : Int) (h : CB w A l) (hc : l.length ≤ c) (hb : bytesOk l) (hlen : l.length < 1000000) (hGl : Gl w) {hd : Hd} {s : Sh} (ho : openS boxOf l = .ok hd s) (hs : srsOk srs = false) :
    Calls Tryd.prog 49 #[.slice A l.length c, .int .i64 srs] w fun ex w' => ex = .returned (.tuple #[.slice none 0 0, .int .i64 2]) ∧ Bel w w' := by
  have HOP : Hid (Calls Tryd.prog 46 #[.slice A l.length c] w fun ex w' => ∃ k0 B1 m1 e1 B2 m2 e2, ex = .returned (.tuple #[.agg #[.int .i64 hd.srs, .bool hd.low, .bool hd.bx, .bool hd.em, .bool hd.box.no, .int .i64 hd.box.lx, .int .i64 hd.box.ly, .int .i64 hd.box.hx, .int .i64 hd.box.hy], .agg #[.int .i64 k0, .slice B1 m1 e1, .slice B2 m2 e2], .int .i64 0]) ∧ Hid (KW.M w' w.heap.size (fun _ => True) s [.int .i64 k0, .slice B1 m1 e1, .slice B2 m2 e2]) ∧ Hid (Bel w w')) := Lib.hid (open_good w A c l h hc hb (by omega) hGl ho)
  have HIS : Hid (∀ W', Calls Tryd.prog 63 #[.int .i64 srs] W' fun e w' => e = .returned (.bool false) ∧ W' = w') := Lib.hid (fun W' => by
    have := (isSrs_calls srs W').mono fun e w' h => (⟨h.1, h.2.symm⟩ : e = .returned (.bool (srsOk srs)) ∧ W' = w')
    rw [hs] at this
    exact this)
  obtain ⟨t, ht⟩ : ∃ t, l.length = t := ⟨_, rfl⟩
  rw [ht] at HOP ⊢
  clear h hc hb hlen hGl ho hs ht
  go_enter Tryd.func49, Tryd.ntmps49
  go_wp2_with (first
    | (go_at_call 63; refine (HIS.out _).mono ?_; rintro e w' ⟨rfl, rfl⟩)
    | (go_at_call 46; refine (HOP.out).mono ?_; rintro ex w3 ⟨k0, B1, m1, e1, B2, m2, e2, rfl, hM, b3⟩; have B3 := Lib.hid (bthen b3.out (((Bel.refl w3).alloc (Nat.le_refl _) (.cells #[.int .i64 hd.srs, .bool hd.low, .bool hd.bx, .bool hd.em, .bool hd.box.no, .int .i64 hd.box.lx, .int .i64 hd.box.ly, .int .i64 hd.box.hx, .int .i64 hd.box.hy] 69)).alloc (by simp) (.cells #[.int .i64 k0, .slice B1 m1 e1, .slice B2 m2 e2] 25))); clear b3))
  refine ⟨rfl, .tuple #[.slice none 0 0, .int .i64 2], ?_, rfl, B3.out⟩
  simp [results, Tryd.results49, go_sem]
set_option maxHeartbeats 8000000 in
set_option maxRecDepth 100000 in
theorem retag_good (w : World) (A : Option Addr) (c : Nat) (l : List Int) (srs : Int) (h : CB w A l) (hc : l.length ≤ c) (hb : bytesOk l) (hlen : l.length < 1000000) (hGl : Gl w) {hd : Hd} {s : Sh} (ho : openS boxOf l = .ok hd s) (hs : srsOk srs = true) :
    Calls Tryd.prog 49 #[.slice A l.length c, .int .i64 srs] w fun ex w' => ∃ v, ex = .returned (.tuple #[v, .int .i64 0]) ∧ Hid (RB w w' v (tagL l srs hd.low)) ∧ Hid (Bel w w') := by
  have HOP : Hid (Calls Tryd.prog 46 #[.slice A l.length c] w fun ex w' => ∃ k0 B1 m1 e1 B2 m2 e2, ex = .returned (.tuple #[.agg #[.int .i64 hd.srs, .bool hd.low, .bool hd.bx, .bool hd.em, .bool hd.box.no, .int .i64 hd.box.lx, .int .i64 hd.box.ly, .int .i64 hd.box.hx, .int .i64 hd.box.hy], .agg #[.int .i64 k0, .slice B1 m1 e1, .slice B2 m2 e2], .int .i64 0]) ∧ Hid (KW.M w' w.heap.size (fun _ => True) s [.int .i64 k0, .slice B1 m1 e1, .slice B2 m2 e2]) ∧ Hid (Bel w w')) := Lib.hid (open_good w A c l h hc hb (by omega) hGl ho)
  have HIS : Hid (∀ W', Calls Tryd.prog 63 #[.int .i64 srs] W' fun e w' => e = .returned (.bool true) ∧ W' = w') := Lib.hid (fun W' => by
    have := (isSrs_calls srs W').mono fun e w' h => (⟨h.1, h.2.symm⟩ : e = .returned (.bool (srsOk srs)) ∧ W' = w')
    rw [hs] at this
    exact this)
  obtain ⟨low, hlow⟩ : ∃ x, hd.low = x := ⟨_, rfl⟩
  rw [hlow] at HOP ⊢
  have h17 : 17 ≤ l.length := open_len ho
  have HC := Lib.hid h
  obtain ⟨ad, rfl, hcell⟩ := h.at_ 0 (by omega)
  obtain ⟨bk, off, rfl, hlt⟩ := add_none hcell
  have HD8 : Hid (∀ W, Bel w W → CB W (some ⟨bk, off + 8, none⟩) (l.drop 8)) := Lib.hid (fun W hh => by
    have := (h.below hh).drop 8 c (by omega) hc
    rw [if_neg (by omega)] at this
    simpa [add_mid] using this)
  have HD4 : Hid (∀ W, Bel w W → CB W (some ⟨bk, off, none⟩) (l.take 4)) := Lib.hid (fun W hh => (h.below hh).take 4 (by omega))
  obtain ⟨t, ht⟩ : ∃ t, l.length = t := ⟨_, rfl⟩
  have HL4 : Hid ((l.take 4).length = 4) := Lib.hid (by rw [List.length_take]; omega)
  have HL8 : Hid ((l.drop 8).length = t - 8) := Lib.hid (by rw [List.length_drop, ht])
  obtain ⟨L0, hL0⟩ : ∃ L, l.take 4 = L := ⟨_, rfl⟩
  obtain ⟨L2, hL2⟩ : ∃ L, l.drop 8 = L := ⟨_, rfl⟩
  rw [hL0] at HD4 HL4
  rw [hL2] at HD8 HL8
  have htag : tagL l srs low = L0 ++ MWkb.nm srs 4 low ++ L2 := by unfold tagL; rw [hL0, hL2]
  obtain ⟨L1, hL1⟩ : ∃ L, MWkb.nm srs 4 low = L := ⟨_, rfl⟩
  have HL1 : Hid (L1.length = 4) := Lib.hid (by rw [← hL1]; exact MWkb.nm4 _ _)
  rw [hL1] at htag
  rw [htag]
  have HPU : Hid (∀ W, Calls Tryd.prog 68 #[.slice none 0 0, .int .u64 (MWkb.u64 srs), .int .i64 4, .bool low] W fun e w' => ∃ v, e = .returned v ∧ RB W w' v L1 ∧ Below W.heap.size W w') := Lib.hid (fun W => by
    have h9 := octet_Put_calls none 0 [] (MWkb.u64 srs) 4 low W (CB.nil _) (Nat.le_refl _) (by simp) (MWkb.u64_in _).1 (MWkb.u64_in _).2
    rw [List.nil_append] at h9
    have h10 : MOct.putL (MWkb.u64 srs) 4 low = L1 := hL1
    rw [h10] at h9
    exact h9)
  have HU := Lib.hid (u64w srs)
  have HCT := Lib.hid (show 17 ≤ t ∧ t ≤ c ∧ t < 1000000 by omega)
  rw [ht] at HOP ⊢
  clear h hc hb hlen hGl ho hs ht hlow htag hL0 hL1 hL2 h17 hcell hlt
  go_enter Tryd.func49, Tryd.ntmps49
  go_upto_region 6 with (first
    | (go_at_call 63; refine (HIS.out _).mono ?_; rintro e w' ⟨rfl, rfl⟩)
    | (go_at_call 46; refine (HOP.out).mono ?_; rintro ex w3 ⟨k0, B1, m1, e1, B2, m2, e2, rfl, hM, b3⟩))
  have XD := (Blk.new w3 #[.int .i64 hd.srs, .bool low, .bool hd.bx, .bool hd.em, .bool hd.box.no, .int .i64 hd.box.lx, .int .i64 hd.box.ly, .int .i64 hd.box.hx, .int .i64 hd.box.hy] 69).alloc (.cells #[.int .i64 k0, .slice B1 m1 e1, .slice B2 m2 e2] 25)
  have B5 : Hid (Bel w ((w3.alloc (.cells #[.int .i64 hd.srs, .bool low, .bool hd.bx, .bool hd.em, .bool hd.box.no, .int .i64 hd.box.lx, .int .i64 hd.box.ly, .int .i64 hd.box.hx, .int .i64 hd.box.hy] 69)).alloc (.cells #[.int .i64 k0, .slice B1 m1 e1, .slice B2 m2 e2] 25))) := Lib.hid (bthen b3.out (((Bel.refl w3).alloc (Nat.le_refl _) _).alloc (by simp) _))
  obtain ⟨w5, hW⟩ : ∃ Y, (w3.alloc (.cells #[.int .i64 hd.srs, .bool low, .bool hd.bx, .bool hd.em, .bool hd.box.no, .int .i64 hd.box.lx, .int .i64 hd.box.ly, .int .i64 hd.box.hx, .int .i64 hd.box.hy] 69)).alloc (.cells #[.int .i64 k0, .slice B1 m1 e1, .slice B2 m2 e2] 25) = Y := ⟨_, rfl⟩
  rw [hW] at XD B5 ⊢
  clear hW
  obtain ⟨gd, hgd⟩ : ∃ x, w3.heap.size = x := ⟨_, rfl⟩
  rw [hgd] at XD ⊢
  clear hgd b3 hM
  have HXD := Lib.hid XD
  clear XD
  refine Reg.region_mono (P := Tryd.prog) (Ext := Bel) (R := fun i v W => match i with
      | 0 => v = .slice (some ⟨bk, off, none⟩) t c
      | 1 => v = .slice (some ⟨bk, off, none⟩) 4 c
      | 2 => v = .int .i64 srs
      | 3 => v = .int .u64 (MWkb.u64 srs)
      | 4 => v = .pointer (some ⟨gd, 1, none⟩)
      | 5 => v = .bool low
      | 6 => RB w5 W v L1
      | 7 => v = .slice (some ⟨bk, off, none⟩) t c
      | 8 => v = .slice (some ⟨bk, off + 8, none⟩) (t - 8) (c - 8)
      | 9 => ∃ (g : Nat) (A1 : Option Addr) (k1 : Nat), v = .slice (some ⟨g, 0, none⟩) 3 3 ∧ Blk W g #[.slice (some ⟨bk, off, none⟩) 4 c, .slice A1 L1.length k1, .slice (some ⟨bk, off + 8, none⟩) (t - 8) (c - 8)] 49 ∧ CB W A1 L1
      | 10 => RB w5 W v (L0 ++ L1 ++ L2)
      | 11 => RB w5 W v (L0 ++ L1 ++ L2)
      | 12 => v = .int .i64 0
      | _ => True) (fun W => Below w5.heap.size w5 W) rfl (by kernel_rfl) (by kernel_rfl) (Bel.drew w5) (fun W W' h h' => bthen h h') Bel.refl (by intro j v W W' hx h; split at h <;> first | exact h | exact RB.below h hx | (obtain ⟨g, A1, k1, h1, h2, h3⟩ := h; exact ⟨g, A1, k1, h1, h2.bel hx, h3.below hx⟩)) ?_ ?_
  · intro i oi hoi a W hW need old
    match i, hoi with
    | 0, hoi =>
      simp only [List.getElem?_toArray, List.getElem?_cons_succ, List.getElem?_cons_zero, Option.some.injEq] at hoi
      subst hoi
      refine Reg.ob_plain rfl ?_
      have e0 : a.eval (.tmp 0) = .slice (some ⟨bk, off, none⟩) t c := old 0 (by kernel_rfl)
      refine Reg.wp_val (W' := W) (v := _) (by simp only [execOp, e0, Reg.eval_const]; rfl) ⟨_, rfl, Bel.refl W, rfl⟩
    | 1, hoi =>
      simp only [List.getElem?_toArray, List.getElem?_cons_succ, List.getElem?_cons_zero, Option.some.injEq] at hoi
      subst hoi
      refine Reg.ob_plain rfl ?_
      have e23 : a.eval (.tmp 23) = .slice (some ⟨bk, off, none⟩) t c := need 0 _ 23 rfl rfl (by kernel_rfl)
      have hx4 : ¬ (c : Int) < 4 := by have := HCT.out; omega
      refine Reg.wp_val (W' := W) (v := .slice (some ⟨bk, off, none⟩) 4 c) (by simp only [execOp, e23, Reg.eval_const, resolve, invoke, builtin, List.map_toArray, List.map_cons, List.map_nil, Option.map_some, Option.map_none]; (first | rfl | go_simp | (go_simp; rfl))) ⟨_, rfl, Bel.refl W, rfl⟩
    | 2, hoi =>
      simp only [List.getElem?_toArray, List.getElem?_cons_succ, List.getElem?_cons_zero, Option.some.injEq] at hoi
      subst hoi
      refine Reg.ob_plain rfl ?_
      have e1 : a.eval (.tmp 1) = .int .i64 srs := old 1 (by kernel_rfl)
      refine Reg.wp_val (W' := W) (v := _) (by simp only [execOp, e1, Reg.eval_const]; rfl) ⟨_, rfl, Bel.refl W, rfl⟩
    | 3, hoi =>
      simp only [List.getElem?_toArray, List.getElem?_cons_succ, List.getElem?_cons_zero, Option.some.injEq] at hoi
      subst hoi
      refine Reg.ob_plain rfl ?_
      have e25 : a.eval (.tmp 25) = .int .i64 srs := need 2 _ 25 rfl rfl (by kernel_rfl)
      have hx := HU.out
      refine Reg.wp_val (W' := W) (v := .int .u64 (MWkb.u64 srs)) (by simp only [execOp, e25, Reg.eval_const, resolve, invoke, builtin, List.map_toArray, List.map_cons, List.map_nil, Option.map_some, Option.map_none]; (first | rfl | go_simp | (go_simp; rfl))) ⟨_, rfl, Bel.refl W, rfl⟩
    | 4, hoi =>
      simp only [List.getElem?_toArray, List.getElem?_cons_succ, List.getElem?_cons_zero, Option.some.injEq] at hoi
      subst hoi
      refine Reg.ob_plain rfl ?_
      have e6 : a.eval (.tmp 6) = .pointer (some ⟨gd, 0, none⟩) := old 6 (by kernel_rfl)
      refine Reg.wp_val (W' := W) (v := .pointer (some ⟨gd, 1, none⟩)) (by simp only [execOp, e6, Reg.eval_const, resolve, invoke, builtin, List.map_toArray, List.map_cons, List.map_nil, Option.map_some, Option.map_none]; (first | rfl | go_simp | (go_simp; rfl))) ⟨_, rfl, Bel.refl W, rfl⟩
    | 5, hoi =>
      simp only [List.getElem?_toArray, List.getElem?_cons_succ, List.getElem?_cons_zero, Option.some.injEq] at hoi
      subst hoi
      refine Reg.ob_plain rfl ?_
      have e27 : a.eval (.tmp 27) = .pointer (some ⟨gd, 1, none⟩) := need 4 _ 27 rfl rfl (by kernel_rfl)
      have hx := (Blk.bel HXD.out hW).cell 1 rfl
      refine Reg.wp_val (W' := W) (v := .bool low) (by simp only [execOp, e27, Reg.eval_const, resolve, invoke, builtin, List.map_toArray, List.map_cons, List.map_nil, Option.map_some, Option.map_none]; (first | rfl | go_simp | (go_simp; rfl))) ⟨_, rfl, Bel.refl W, rfl⟩
    | 6, hoi =>
      simp only [List.getElem?_toArray, List.getElem?_cons_succ, List.getElem?_cons_zero, Option.some.injEq] at hoi
      subst hoi
      refine Reg.ob_plain rfl ?_
      have e26 : a.eval (.tmp 26) = .int .u64 (MWkb.u64 srs) := need 3 _ 26 rfl rfl (by kernel_rfl)
      have e28 : a.eval (.tmp 28) = .bool low := need 5 _ 28 rfl rfl (by kernel_rfl)
      refine Reg.wp_call (f := 68) (args := #[.slice none 0 0, .int .u64 (MWkb.u64 srs), .int .i64 4, .bool low]) (by simp only [execOp, e26, e28, Reg.eval_const, resolve, invoke, List.map_toArray, List.map_cons, List.map_nil]; go_simp) ?_
      refine (HPU.out W).mono ?_
      rintro e W' ⟨v, rfl, hr, hb⟩; exact ⟨v, rfl, v, rfl, hb, hr.lower hW.size⟩
    | 7, hoi =>
      simp only [List.getElem?_toArray, List.getElem?_cons_succ, List.getElem?_cons_zero, Option.some.injEq] at hoi
      subst hoi
      refine Reg.ob_plain rfl ?_
      have e0 : a.eval (.tmp 0) = .slice (some ⟨bk, off, none⟩) t c := old 0 (by kernel_rfl)
      refine Reg.wp_val (W' := W) (v := _) (by simp only [execOp, e0, Reg.eval_const]; rfl) ⟨_, rfl, Bel.refl W, rfl⟩
    | 8, hoi =>
      simp only [List.getElem?_toArray, List.getElem?_cons_succ, List.getElem?_cons_zero, Option.some.injEq] at hoi
      subst hoi
      refine Reg.ob_plain rfl ?_
      have e30 : a.eval (.tmp 30) = .slice (some ⟨bk, off, none⟩) t c := need 7 _ 30 rfl rfl (by kernel_rfl)
      have hx5 : ¬ c = 8 := by have := HCT.out; omega
      have hx6 : (8 : Int) ≤ t := by have := HCT.out; omega
      refine Reg.wp_val (W' := W) (v := .slice (some ⟨bk, off + 8, none⟩) (t - 8) (c - 8)) (by simp only [execOp, e30, Reg.eval_const, resolve, invoke, builtin, List.map_toArray, List.map_cons, List.map_nil, Option.map_some, Option.map_none]; (first | rfl | go_simp | (go_simp; rfl))) ⟨_, rfl, Bel.refl W, rfl⟩
    | 9, hoi =>
      simp only [List.getElem?_toArray, List.getElem?_cons_succ, List.getElem?_cons_zero, Option.some.injEq] at hoi
      subst hoi
      refine Reg.ob_plain rfl ?_
      have e24 : a.eval (.tmp 24) = .slice (some ⟨bk, off, none⟩) 4 c := need 1 _ 24 rfl rfl (by kernel_rfl)
      have r29 := need 6 _ 29 rfl rfl (by kernel_rfl)
      simp only at r29
      obtain ⟨x29, e29⟩ : ∃ x, a.eval (.tmp 29) = x := ⟨_, rfl⟩
      rw [← Reg.eval_tmp, e29] at r29
      have e31 : a.eval (.tmp 31) = .slice (some ⟨bk, off + 8, none⟩) (t - 8) (c - 8) := need 8 _ 31 rfl rfl (by kernel_rfl)
      obtain ⟨A1, k1, hx29, _, hC1⟩ := r29.reads
      subst hx29
      have hal : Bel W (W.alloc (.cells #[.slice (some ⟨bk, off, none⟩) 4 c, .slice A1 L1.length k1, .slice (some ⟨bk, off + 8, none⟩) (t - 8) (c - 8)] 49)) := (Bel.refl W).alloc (Nat.le_refl _) _
      refine Reg.wp_val (W' := W.alloc (.cells #[.slice (some ⟨bk, off, none⟩) 4 c, .slice A1 L1.length k1, .slice (some ⟨bk, off + 8, none⟩) (t - 8) (c - 8)] 49)) (v := .slice (some ⟨W.heap.size, 0, none⟩) 3 3) (by simp only [execOp, e24, e29, e31, Reg.eval_const, resolve, invoke, List.map_toArray, List.map_cons, List.map_nil]; go_simp) ⟨_, rfl, hal, W.heap.size, A1, k1, rfl, Blk.new W _ _, hC1.below hal⟩
    | 10, hoi =>
      simp only [List.getElem?_toArray, List.getElem?_cons_succ, List.getElem?_cons_zero, Option.some.injEq] at hoi
      subst hoi
      refine Reg.ob_plain rfl ?_
      have r32 := need 9 _ 32 rfl rfl (by kernel_rfl)
      simp only at r32
      obtain ⟨x32, e32⟩ : ∃ x, a.eval (.tmp 32) = x := ⟨_, rfl⟩
      rw [← Reg.eval_tmp, e32] at r32
      obtain ⟨gq, A1, k1, hx32, hb32, hC1⟩ := r32
      subst hx32
      refine Reg.wp_call (f := 67) (args := #[.slice (some ⟨gq, 0, none⟩) 3 3]) (by simp only [execOp, e32, Reg.eval_const, resolve, invoke, List.map_toArray, List.map_cons, List.map_nil]; go_simp) ?_
      refine (concat_calls gq (some ⟨bk, off, none⟩) A1 (some ⟨bk, off + 8, none⟩) c k1 (c - 8) L0 L1 L2 W (by rw [HL4.out, HL8.out]; exact hb32) (HD4.out W (bthen B5.out hW)) hC1 (HD8.out W (bthen B5.out hW)) (by rw [HL4.out, HL1.out, HL8.out]; have := HCT.out; omega)).mono ?_
      rintro e W' ⟨v, rfl, hr, hb⟩; exact ⟨v, rfl, v, rfl, hb.out, hr.out.lower hW.size⟩
    | 11, hoi =>
      simp only [List.getElem?_toArray, List.getElem?_cons_succ, List.getElem?_cons_zero, Option.some.injEq] at hoi
      subst hoi
      refine Reg.ob_plain rfl ?_
      have r33 := need 10 _ 33 rfl rfl (by kernel_rfl)
      simp only at r33
      obtain ⟨x33, e33⟩ : ∃ x, a.eval (.tmp 33) = x := ⟨_, rfl⟩
      rw [← Reg.eval_tmp, e33] at r33
      refine Reg.wp_val (W' := W) (v := _) (by simp only [execOp, e33, Reg.eval_const]; rfl) ⟨_, rfl, Bel.refl W, r33⟩
    | 12, hoi =>
      simp only [List.getElem?_toArray, List.getElem?_cons_succ, List.getElem?_cons_zero, Option.some.injEq] at hoi
      subst hoi
      refine Reg.ob_plain rfl ?_
      refine Reg.wp_val (W' := W) (v := _) (by simp only [execOp, Reg.eval_const]; rfl) ⟨_, rfl, Bel.refl W, rfl⟩
    | n + 13, hoi => simp at hoi
  · intro a w9 hW hsize hdef got same did
    have ha := Reg.act_of [23, 24, 25, 26, 27, 28, 29, 30, 31, 32, 33, 4, 5] hsize hdef same (by kernel_rfl)
    simp only [List.foldl_cons, List.foldl_nil] at ha
    generalize a.tmps.getD 23 undef = y23 at ha
    generalize a.tmps.getD 24 undef = y24 at ha
    generalize a.tmps.getD 25 undef = y25 at ha
    generalize a.tmps.getD 26 undef = y26 at ha
    generalize a.tmps.getD 27 undef = y27 at ha
    generalize a.tmps.getD 28 undef = y28 at ha
    generalize a.tmps.getD 29 undef = y29 at ha
    generalize a.tmps.getD 30 undef = y30 at ha
    generalize a.tmps.getD 31 undef = y31 at ha
    generalize a.tmps.getD 32 undef = y32 at ha
    generalize a.tmps.getD 33 undef = y33 at ha
    have k4 := got 11 _ 4 rfl rfl
    simp only at k4
    generalize a.tmps.getD 4 undef = y4 at ha k4
    have k5 := got 12 _ 5 rfl rfl
    simp only at k5
    rw [k5] at ha
    clear k5
    clear got same hsize hdef did
    subst ha
    simp only [List.setIfInBounds_toArray, List.set_cons_zero, List.set_cons_succ]
    go_wp2
    refine ⟨rfl, .tuple #[y4, .int .i64 0], ?_, y4, rfl, Lib.hid (k4.lower B5.out.size), Lib.hid (bthen B5.out hW)⟩
    simp [results, Tryd.results49, go_sem]
end Go.Proofs.YtfknhpgelleenaaDoor.K
end
