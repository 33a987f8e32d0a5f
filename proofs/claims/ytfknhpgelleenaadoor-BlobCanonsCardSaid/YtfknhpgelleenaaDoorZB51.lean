/- What a claim leans on, part 51, cut by a program out of the texts WCanons16. -/
import Derived.Handy
import Derived.Test.YtfknhpgelleenaaDoorZB4
import Derived.Test.YtfknhpgelleenaaDoorZB24
import Derived.Test.YtfknhpgelleenaaDoorZB26
import Derived.Test.YtfknhpgelleenaaDoorZB40
import Derived.Test.YtfknhpgelleenaaDoorZB41
import Derived.Test.YtfknhpgelleenaaDoorZB42
import Derived.Test.YtfknhpgelleenaaDoorZB43
import Derived.Test.YtfknhpgelleenaaDoorZB44
import Derived.Test.YtfknhpgelleenaaDoorZB47
import Derived.Test.YtfknhpgelleenaaDoorZB50
section
namespace Go.Proofs.YtfknhpgelleenaaDoor.K
open Go Go.RowKit Go.Proofs.YtfknhpgelleenaaDoorW.PrintWords Go.Proofs.YtfknhpgelleenaaDoorW.PrintLast Go.Proofs.YtfknhpgelleenaaDoorW.PrintMore
set_option linter.unusedVariables false
set_option linter.unusedSimpArgs false
open Go.Proofs.YtfknhpgelleenaaDoor.MPeek
open Go.Proofs.YtfknhpgelleenaaDoor.MBox (noneB zeroB good)
open Go.Proofs.YtfknhpgelleenaaDoor.MShape (Sh)
open Go.Proofs.YtfknhpgelleenaaDoor.MRead (readS inS inI)
theorem open_bad_ne {F : List (Int × Int) → MBox.Bx} {l : List Int} {e : Int} (h : openS F l = .bad e) : e ≠ 0 := by
  unfold openS at h
  split at h
  · rename_i hp
    injection h with h
    subst h
    exact peek_ne hp
  · split at h
    · rename_i hr
      injection h with h
      subst h
      exact hr
    · split at h
      · cases h
      · injection h with h
        omega
set_option maxHeartbeats 8000000 in
set_option maxRecDepth 100000 in
theorem canons_long (w : World) (A : Option Addr) (c : Nat) (l : List Int) (srs : Int) (h : CB w A l) (hc : l.length ≤ c) (hb : bytesOk l) (hGl : Gl w) (hl : 20000 < l.length) :
    Calls Tryd.prog 14 #[.slice A l.length c, .int .i64 srs] w fun ex w' => ex = .returned (.bool true) ∧ Bel w w' := by
  have HGL := Lib.hid hGl
  have HLV : Hid (∀ W', Bel w W' → Calls Tryd.prog 40 #[] W' fun e w'' => e = .returned (.bool true) ∧ Bel W' w'') := Lib.hid (fun W' h => lives16 W' (Nat.le_trans HGL.out.2.2 h.size) (HGL.out.1.bel h) (HGL.out.2.1.below HGL.out.2.2 h))
  have HC := Lib.hid h
  have HCC := Lib.hid hc
  have HBY := Lib.hid hb
  obtain ⟨t, ht⟩ : ∃ t, l.length = t := ⟨_, rfl⟩
  rw [ht] at hl ⊢
  have hlt : (20000 : Int) < t := by omega
  clear h hc hb hGl ht hl
  go_enter Tryd.func14, Tryd.ntmps14
  go_wp2_with (go_at_call 40; refine (HLV.out _ (Bel.refl w)).mono ?_; rintro e w14 ⟨rfl, b14⟩; have B14 := Lib.hid b14; clear b14)
  go_ret
  exact ⟨rfl, B14.out⟩
set_option maxHeartbeats 8000000 in
set_option maxRecDepth 100000 in
theorem canons_bad (w : World) (A : Option Addr) (c : Nat) (l : List Int) (srs : Int) (h : CB w A l) (hc : l.length ≤ c) (hb : bytesOk l) (hGl : Gl w) (hl : ¬ 20000 < l.length) {e : Int} (ho : openS boxOf l = .bad e) (hne : e ≠ 0) :
    Calls Tryd.prog 14 #[.slice A l.length c, .int .i64 srs] w fun ex w' => ex = .returned (.bool true) ∧ Bel w w' := by
  have HGL := Lib.hid hGl
  have HLV : Hid (∀ W', Bel w W' → Calls Tryd.prog 40 #[] W' fun e w'' => e = .returned (.bool true) ∧ Bel W' w'') := Lib.hid (fun W' h => lives16 W' (Nat.le_trans HGL.out.2.2 h.size) (HGL.out.1.bel h) (HGL.out.2.1.below HGL.out.2.2 h))
  have HC := Lib.hid h
  have HCC := Lib.hid hc
  have HBY := Lib.hid hb
  have HOP : Hid (∀ W', Bel w W' → Calls Tryd.prog 46 #[.slice A l.length c] W' fun ex w' => ex = .returned (.tuple #[.agg #[.int .i64 0, .bool false, .bool false, .bool false, .bool false, .int .i64 0, .int .i64 0, .int .i64 0, .int .i64 0], .agg #[.int .i64 0, .slice none 0 0, .slice none 0 0], .int .i64 e]) ∧ Bel W' w') := Lib.hid (fun W' hh => open_none W' A c l (h.below hh) hc hb (by omega) (HGL.out.below hh HGL.out.2.2) ho)
  have HCN : Hid (∀ W', Bel w W' → Calls Tryd.prog 48 #[.slice A l.length c] W' fun ex w' => ex = .returned (.tuple #[.slice none 0 0, .int .i64 e]) ∧ Bel W' w') := Lib.hid (fun W' hh => canon_bad W' A c l (h.below hh) hc hb (by omega) (HGL.out.below hh HGL.out.2.2) ho hne)
  obtain ⟨t, ht⟩ : ∃ t, l.length = t := ⟨_, rfl⟩
  rw [ht] at hl HOP HCN ⊢
  have hlt : ¬ (20000 : Int) < t := by omega
  have he1 : (e == 0) = false := by simpa using hne
  have he2 : (e != 0) = true := by simpa using hne
  have he3 : (e == e) = true := by simp
  have he4 : (e != e) = false := by simp
  clear h hc hb hGl ht hl ho hne
  go_enter Tryd.func14, Tryd.ntmps14
  go_wp2_with (first
    | (go_at_call 40; refine (HLV.out _ (bthen B3.out B4.out)).mono ?_; rintro e w14 ⟨rfl, b14⟩; have B14 := Lib.hid b14; clear b14)
    | (go_at_call 48; refine (HCN.out _ B3.out).mono ?_; rintro ex w4 ⟨rfl, b4⟩; have B4 := Lib.hid b4; clear b4)
    | (go_at_call 46; refine (HOP.out _ (Bel.refl w)).mono ?_; rintro ex w3 ⟨rfl, b3⟩; have B3 := Lib.hid (bthen b3 (((Bel.refl w3).alloc (Nat.le_refl _) (.cells #[.int .i64 0, .bool false, .bool false, .bool false, .bool false, .int .i64 0, .int .i64 0, .int .i64 0, .int .i64 0] 69)).alloc (by simp) (.cells #[.int .i64 0, .slice none 0 0, .slice none 0 0] 25))); clear b3))
  go_ret
  exact ⟨by first | rfl | simp, bthen (bthen B3.out B4.out) B14.out⟩
set_option maxHeartbeats 8000000 in
set_option maxRecDepth 100000 in
theorem canons_arg (w : World) (A : Option Addr) (c : Nat) (l : List Int) (srs : Int) (h : CB w A l) (hc : l.length ≤ c) (hb : bytesOk l) (hGl : Gl w) (hl20 : ¬ 20000 < l.length) {hd : Hd} {s : Sh} (ho : openS boxOf l = .ok hd s) (hs : srsOk srs = false) :
    Calls Tryd.prog 14 #[.slice A l.length c, .int .i64 srs] w fun ex w' => ex = .returned (.bool true) ∧ Bel w w' := by
  have HGL := Lib.hid hGl
  have HLV : Hid (∀ W', Bel w W' → Calls Tryd.prog 40 #[] W' fun e w'' => e = .returned (.bool true) ∧ Bel W' w'') := Lib.hid (fun W' h => lives16 W' (Nat.le_trans HGL.out.2.2 h.size) (HGL.out.1.bel h) (HGL.out.2.1.below HGL.out.2.2 h))
  have HC := Lib.hid h
  have HCC := Lib.hid hc
  have HBY := Lib.hid hb
  obtain ⟨s0, hl, hx, he, hb2⟩ := hd
  obtain ⟨hck, hin⟩ := open_fine hb ho
  have hs0 : srsOk s0 = true := open_srs ho
  have HOP : Hid (∀ W', Bel w W' → Calls Tryd.prog 46 #[.slice A l.length c] W' fun ex w' => ∃ k0 B1 m1 e1 B2 m2 e2, ex = .returned (.tuple #[.agg #[.int .i64 s0, .bool hl, .bool hx, .bool he, .bool hb2.no, .int .i64 hb2.lx, .int .i64 hb2.ly, .int .i64 hb2.hx, .int .i64 hb2.hy], .agg #[.int .i64 k0, .slice B1 m1 e1, .slice B2 m2 e2], .int .i64 0]) ∧ Hid (KW.M w' W'.heap.size (fun _ => True) s [.int .i64 k0, .slice B1 m1 e1, .slice B2 m2 e2]) ∧ Hid (Bel W' w')) := Lib.hid (fun W' hh => open_good W' A c l (h.below hh) hc hb (by omega) (HGL.out.below hh HGL.out.2.2) ho)
  have HCN : Hid (∀ W', Bel w W' → Calls Tryd.prog 48 #[.slice A l.length c] W' fun ex w' => ∃ v, ex = .returned (.tuple #[v, .int .i64 0]) ∧ Hid (RB W' w' v (blobB false true s0 s)) ∧ Hid (Bel W' w')) := Lib.hid (fun W' hh => canon_good W' A c l (h.below hh) hc hb (by omega) (HGL.out.below hh HGL.out.2.2) ho)
  have HRT : Hid (∀ W', Bel w W' → Calls Tryd.prog 49 #[.slice A l.length c, .int .i64 srs] W' fun ex w' => ex = .returned (.tuple #[.slice none 0 0, .int .i64 2]) ∧ Bel W' w') := Lib.hid (fun W' hh => retag_arg W' A c l srs (h.below hh) hc hb (by omega) (HGL.out.below hh HGL.out.2.2) ho hs)
  clear hs
  obtain ⟨b, hbe⟩ : ∃ b, boxOf s.flat = b := ⟨_, rfl⟩
  have hTL : blobB false true s0 s = blobL false true s0 s b := by unfold blobB; rw [if_pos ⟨hck, hs0⟩, hbe]
  have HLT : Hid ((blobL false true s0 s b).length < 100040) := Lib.hid (blobL_len hck).2
  have HBT := Lib.hid (bytes_blobL false true s0 s b)
  have hob := open_blob hck hin hs0 false true
  rw [hbe] at hob
  obtain ⟨BT, hBT⟩ : ∃ B, (true && !b.no) = B := ⟨_, rfl⟩
  rw [hBT] at hob
  obtain ⟨XT, hXT⟩ : ∃ X, (if BT = true then b else noneB) = X := ⟨_, rfl⟩
  have hob2 : openS boxOf (blobL false true s0 s b) = .ok ⟨s0, false, BT, b.no, XT⟩ s := by rw [hob]; unfold hdH; rw [hXT]
  obtain ⟨bn, hbn⟩ : ∃ x, b.no = x := ⟨_, rfl⟩
  rw [hbn] at hob2
  obtain ⟨T, hT⟩ : ∃ T, blobL false true s0 s b = T := ⟨_, rfl⟩
  rw [hT] at HLT HBT hob2 hTL
  rw [hTL] at HCN
  have HOT : Hid (∀ A8 c8 W', CB W' A8 T → T.length ≤ c8 → Bel w W' → Calls Tryd.prog 46 #[.slice A8 T.length c8] W' fun ex w' => ∃ k0 B1 m1 e1 B2 m2 e2, ex = .returned (.tuple #[.agg #[.int .i64 s0, .bool false, .bool BT, .bool bn, .bool XT.no, .int .i64 XT.lx, .int .i64 XT.ly, .int .i64 XT.hx, .int .i64 XT.hy], .agg #[.int .i64 k0, .slice B1 m1 e1, .slice B2 m2 e2], .int .i64 0]) ∧ Hid (KW.M w' W'.heap.size (fun _ => True) s [.int .i64 k0, .slice B1 m1 e1, .slice B2 m2 e2]) ∧ Hid (Bel W' w')) := Lib.hid (fun A8 c8 W' h1 h2 hh => open_good W' A8 c8 T h1 h2 HBT.out (by have := HLT.out; omega) (HGL.out.below hh HGL.out.2.2) hob2)
  have HCT : Hid (∀ A8 c8 W', CB W' A8 T → T.length ≤ c8 → Bel w W' → Calls Tryd.prog 48 #[.slice A8 T.length c8] W' fun ex w' => ∃ v, ex = .returned (.tuple #[v, .int .i64 0]) ∧ Hid (RB W' w' v T) ∧ Hid (Bel W' w')) := Lib.hid (fun A8 c8 W' h1 h2 hh => by
    have := canon_good W' A8 c8 T h1 h2 HBT.out (by have := HLT.out; omega) (HGL.out.below hh HGL.out.2.2) hob2
    rw [hTL] at this
    exact this)
  obtain ⟨t, ht⟩ : ∃ t, l.length = t := ⟨_, rfl⟩
  have HTL := Lib.hid ht
  rw [ht] at hl20 HOP HCN HRT ⊢
  have hlt : ¬ (20000 : Int) < t := by omega
  obtain ⟨t8, ht8⟩ : ∃ t, T.length = t := ⟨_, rfl⟩
  rw [ht8] at HOT HCT
  have HT8 := Lib.hid ht8
  clear h hc hb hGl ht hl20 ho hck hin hs0 hbe hTL hob hBT hXT hob2 hbn hT ht8
  go_enter Tryd.func14, Tryd.ntmps14
  go_upto_region 4 with (go_at_call 46; refine (HOP.out _ (Bel.refl w)).mono ?_; rintro ex w3 ⟨k0, Ba0, ma0, ea0, Bb0, mb0, eb0, rfl, hM, bo⟩)
  have XD := (Blk.new w3 #[.int .i64 s0, .bool hl, .bool hx, .bool he, .bool hb2.no, .int .i64 hb2.lx, .int .i64 hb2.ly, .int .i64 hb2.hx, .int .i64 hb2.hy] 69).alloc (.cells #[.int .i64 k0, .slice Ba0 ma0 ea0, .slice Bb0 mb0 eb0] 25)
  have XS := Blk.new_at (W := w3.alloc (.cells #[.int .i64 s0, .bool hl, .bool hx, .bool he, .bool hb2.no, .int .i64 hb2.lx, .int .i64 hb2.ly, .int .i64 hb2.hx, .int .i64 hb2.hy] 69)) (g := w3.heap.size + 1) (by simp) #[.int .i64 k0, .slice Ba0 ma0 ea0, .slice Bb0 mb0 eb0] 25
  have HB4 : Hid (Bel w3 ((w3.alloc (.cells #[.int .i64 s0, .bool hl, .bool hx, .bool he, .bool hb2.no, .int .i64 hb2.lx, .int .i64 hb2.ly, .int .i64 hb2.hx, .int .i64 hb2.hy] 69)).alloc (.cells #[.int .i64 k0, .slice Ba0 ma0 ea0, .slice Bb0 mb0 eb0] 25))) := Lib.hid (((Bel.refl w3).alloc (Nat.le_refl _) _).alloc (by simp) _)
  obtain ⟨w4, hW⟩ : ∃ Y, ((w3.alloc (.cells #[.int .i64 s0, .bool hl, .bool hx, .bool he, .bool hb2.no, .int .i64 hb2.lx, .int .i64 hb2.ly, .int .i64 hb2.hx, .int .i64 hb2.hy] 69)).alloc (.cells #[.int .i64 k0, .slice Ba0 ma0 ea0, .slice Bb0 mb0 eb0] 25)) = Y := ⟨_, rfl⟩
  rw [hW] at XD XS HB4 ⊢
  clear hW
  have B4 := Lib.hid (bthen (Bel.refl w) (bthen bo.out HB4.out))
  have HM0 : Hid (∃ dd, ShB w4.heap.size w4 dd (.int .i64 k0, .slice Ba0 ma0 ea0, .slice Bb0 mb0 eb0) s) := Lib.hid (by
    obtain ⟨dd, hm⟩ := Kd.M_below (d := KW) hM.out HB4.out
    exact ⟨dd, MW.shB (c := (.int .i64 k0, .slice Ba0 ma0 ea0, .slice Bb0 mb0 eb0)) hm⟩)
  obtain ⟨gd0, hgd⟩ : ∃ x, w3.heap.size = x := ⟨_, rfl⟩
  rw [hgd] at XD XS ⊢
  obtain ⟨gx0, hgx⟩ : ∃ x, gd0 + 1 = x := ⟨_, rfl⟩
  rw [hgx] at XS ⊢
  have HXD0 := Lib.hid XD
  have HXS0 := Lib.hid XS
  clear hgd hgx hM bo HB4 XD XS
  clear hlt
  go_upto_region 5 with (go_at_call 48; refine (HCN.out _ B4.out).mono ?_; rintro ex w5 ⟨v8, rfl, hr8, hb8⟩; obtain ⟨A8, c8, hv, hcap8, hC8⟩ := hr8.out.reads; rw [HT8.out] at hv; subst hv)
  have HC8 := Lib.hid hC8
  have HK8 : Hid (t8 ≤ c8) := Lib.hid (by rw [← HT8.out]; exact hcap8)
  have B45 := Lib.hid hb8.out
  have B5 := Lib.hid (bthen B4.out hb8.out)
  clear hC8 hcap8 hr8 hb8
  go_upto_region 9 with (fail)
  have HOT5 := Lib.hid (HOT.out A8 c8 w5 HC8.out HK8.out B5.out)
  go_upto_region 10 with (go_at_call 46; refine (HOT5.out).mono ?_; rintro ex w6 ⟨k2, Ba2, ma2, ea2, Bb2, mb2, eb2, rfl, hM, bo⟩)
  have XD := (Blk.new w6 #[.int .i64 s0, .bool false, .bool BT, .bool bn, .bool XT.no, .int .i64 XT.lx, .int .i64 XT.ly, .int .i64 XT.hx, .int .i64 XT.hy] 69).alloc (.cells #[.int .i64 k2, .slice Ba2 ma2 ea2, .slice Bb2 mb2 eb2] 25)
  have XS := Blk.new_at (W := w6.alloc (.cells #[.int .i64 s0, .bool false, .bool BT, .bool bn, .bool XT.no, .int .i64 XT.lx, .int .i64 XT.ly, .int .i64 XT.hx, .int .i64 XT.hy] 69)) (g := w6.heap.size + 1) (by simp) #[.int .i64 k2, .slice Ba2 ma2 ea2, .slice Bb2 mb2 eb2] 25
  have HB4 : Hid (Bel w6 ((w6.alloc (.cells #[.int .i64 s0, .bool false, .bool BT, .bool bn, .bool XT.no, .int .i64 XT.lx, .int .i64 XT.ly, .int .i64 XT.hx, .int .i64 XT.hy] 69)).alloc (.cells #[.int .i64 k2, .slice Ba2 ma2 ea2, .slice Bb2 mb2 eb2] 25))) := Lib.hid (((Bel.refl w6).alloc (Nat.le_refl _) _).alloc (by simp) _)
  obtain ⟨w7, hW⟩ : ∃ Y, ((w6.alloc (.cells #[.int .i64 s0, .bool false, .bool BT, .bool bn, .bool XT.no, .int .i64 XT.lx, .int .i64 XT.ly, .int .i64 XT.hx, .int .i64 XT.hy] 69)).alloc (.cells #[.int .i64 k2, .slice Ba2 ma2 ea2, .slice Bb2 mb2 eb2] 25)) = Y := ⟨_, rfl⟩
  rw [hW] at XD XS HB4 ⊢
  clear hW
  have B7 := Lib.hid (bthen B5.out (bthen bo.out HB4.out))
  have B57 := Lib.hid (bthen bo.out HB4.out)
  have HM2 : Hid (∃ dd, ShB w7.heap.size w7 dd (.int .i64 k2, .slice Ba2 ma2 ea2, .slice Bb2 mb2 eb2) s) := Lib.hid (by
    obtain ⟨dd, hm⟩ := Kd.M_below (d := KW) hM.out HB4.out
    exact ⟨dd, MW.shB (c := (.int .i64 k2, .slice Ba2 ma2 ea2, .slice Bb2 mb2 eb2)) hm⟩)
  obtain ⟨gd2, hgd⟩ : ∃ x, w6.heap.size = x := ⟨_, rfl⟩
  rw [hgd] at XD XS ⊢
  obtain ⟨gx2, hgx⟩ : ∃ x, gd2 + 1 = x := ⟨_, rfl⟩
  rw [hgx] at XS ⊢
  have HXD2 := Lib.hid XD
  have HXS2 := Lib.hid XS
  clear hgd hgx hM bo HB4 XD XS
  have HC87 := Lib.hid (HC8.out.below B57.out)
  have HCT7 := Lib.hid (HCT.out A8 c8 w7 HC87.out HK8.out B7.out)
  clear HOT5
  go_upto_region 11 with (go_at_call 48; refine (HCT7.out).mono ?_; rintro ex w8 ⟨v13, rfl, hr13, hb13⟩; obtain ⟨A13, c13, hv, hcap13, hC13⟩ := hr13.out.reads; rw [HT8.out] at hv; subst hv)
  have B78 := Lib.hid hb13.out
  have B8 := Lib.hid (bthen B7.out B78.out)
  have B48 := Lib.hid (bthen B45.out (bthen B57.out B78.out))
  have hcv1 : (convert 49 9 (.slice A8 t8 c8)).run Tryd.prog w8 = .ok (.string (strOfNums T)) w8 := by have := (HC87.out.below B78.out).str (c := c8); rw [HT8.out] at this; exact this
  have hcv2 : (convert 49 9 (.slice A13 t8 c13)).run Tryd.prog w8 = .ok (.string (strOfNums T)) w8 := by have := hC13.str (c := c13); rw [HT8.out] at this; exact this
  have hst : ((strOfNums T).toList == (strOfNums T).toList) = true := by simp
  have hst2 : ((strOfNums T).toList != (strOfNums T).toList) = false := by simp
  have HEQ1 : Hid (Calls Tryd.prog 31 #[.agg #[.int .i64 k0, .slice Ba0 ma0 ea0, .slice Bb0 mb0 eb0], .agg #[.int .i64 k2, .slice Ba2 ma2 ea2, .slice Bb2 mb2 eb2]] w8 fun e w' => e = .returned (.bool true) ∧ Bel w8 w') := Lib.hid (by
    obtain ⟨d1, hs1⟩ := HM0.out
    obtain ⟨d2, hs2⟩ := HM2.out
    have := rEqual_calls d1 d2 s s (.int .i64 k0, .slice Ba0 ma0 ea0, .slice Bb0 mb0 eb0) (.int .i64 k2, .slice Ba2 ma2 ea2, .slice Bb2 mb2 eb2) w8 w8.heap.size (Nat.le_refl _) ((hs1.keep (KeepB.bel B48.out)).mono (Below.size B48.out)) ((hs2.keep (KeepB.bel B78.out)).mono (Below.size B78.out))
    rw [MShape.eqS_refl] at this
    exact this)
  obtain ⟨x0, x1, x2⟩ := Blk.cells3 (Blk.bel HXS0.out B48.out)
  obtain ⟨y0, y1, y2⟩ := Blk.cells3 (Blk.bel HXS2.out B78.out)
  have hss : (s0 == s0) = true := by simp
  have hss2 : (s0 != s0) = false := by simp
  clear hcap13 hC13 hr13 hb13 HCT7 HOT HCT
  go_upto_region 13 with (go_at_call 31; refine (HEQ1.out).mono ?_; rintro ex w9 ⟨rfl, b9⟩; have B89 := Lib.hid b9; have d0 : w9.cell? ⟨gd0, 0, none⟩ = some (.int .i64 s0) := (Blk.bel HXD0.out (bthen B48.out b9)).cell 0 rfl; have d2 : w9.cell? ⟨gd2, 0, none⟩ = some (.int .i64 s0) := (Blk.bel HXD2.out (bthen B78.out b9)).cell 0 rfl; have d3 : w9.cell? ⟨gd2, 1, none⟩ = some (.bool false) := (Blk.bel HXD2.out (bthen B78.out b9)).cell 1 rfl; clear b9 x0 x1 x2 y0 y1 y2 hcv1 hcv2)
  clear d0 d2 d3 hst hst2 hss hss2
  have B9 := Lib.hid (bthen B8.out B89.out)
  have B49 := Lib.hid (bthen B48.out B89.out)
  go_wp2_with (first
    | (go_at_call 40; refine (HLV.out _ (bthen B9.out B10.out)).mono ?_; rintro e w14 ⟨rfl, b14⟩; have B14 := Lib.hid b14; clear b14)
    | (go_at_call 49; refine (HRT.out _ B9.out).mono ?_; rintro ex w10 ⟨rfl, b10⟩; have B10 := Lib.hid b10; clear b10))
  go_ret
  exact ⟨by first | rfl | simp, bthen (bthen B9.out B10.out) B14.out⟩
set_option maxHeartbeats 8000000 in
set_option maxRecDepth 100000 in
theorem canons_good (w : World) (A : Option Addr) (c : Nat) (l : List Int) (srs : Int) (h : CB w A l) (hc : l.length ≤ c) (hb : bytesOk l) (hGl : Gl w) (hl20 : ¬ 20000 < l.length) {hd : Hd} {s : Sh} (ho : openS boxOf l = .ok hd s) (hs : srsOk srs = true) :
    Calls Tryd.prog 14 #[.slice A l.length c, .int .i64 srs] w fun ex w' => ex = .returned (.bool true) ∧ Bel w w' := by
  have HGL := Lib.hid hGl
  have HLV : Hid (∀ W', Bel w W' → Calls Tryd.prog 40 #[] W' fun e w'' => e = .returned (.bool true) ∧ Bel W' w'') := Lib.hid (fun W' h => lives16 W' (Nat.le_trans HGL.out.2.2 h.size) (HGL.out.1.bel h) (HGL.out.2.1.below HGL.out.2.2 h))
  have HC := Lib.hid h
  have HCC := Lib.hid hc
  have HBY := Lib.hid hb
  obtain ⟨s0, hl, hx, he, hb2⟩ := hd
  obtain ⟨hck, hin⟩ := open_fine hb ho
  have hs0 : srsOk s0 = true := open_srs ho
  have HOP : Hid (∀ W', Bel w W' → Calls Tryd.prog 46 #[.slice A l.length c] W' fun ex w' => ∃ k0 B1 m1 e1 B2 m2 e2, ex = .returned (.tuple #[.agg #[.int .i64 s0, .bool hl, .bool hx, .bool he, .bool hb2.no, .int .i64 hb2.lx, .int .i64 hb2.ly, .int .i64 hb2.hx, .int .i64 hb2.hy], .agg #[.int .i64 k0, .slice B1 m1 e1, .slice B2 m2 e2], .int .i64 0]) ∧ Hid (KW.M w' W'.heap.size (fun _ => True) s [.int .i64 k0, .slice B1 m1 e1, .slice B2 m2 e2]) ∧ Hid (Bel W' w')) := Lib.hid (fun W' hh => open_good W' A c l (h.below hh) hc hb (by omega) (HGL.out.below hh HGL.out.2.2) ho)
  have HCN : Hid (∀ W', Bel w W' → Calls Tryd.prog 48 #[.slice A l.length c] W' fun ex w' => ∃ v, ex = .returned (.tuple #[v, .int .i64 0]) ∧ Hid (RB W' w' v (blobB false true s0 s)) ∧ Hid (Bel W' w')) := Lib.hid (fun W' hh => canon_good W' A c l (h.below hh) hc hb (by omega) (HGL.out.below hh HGL.out.2.2) ho)
  have HRT : Hid (∀ W', Bel w W' → Calls Tryd.prog 49 #[.slice A l.length c, .int .i64 srs] W' fun ex w' => ∃ v, ex = .returned (.tuple #[v, .int .i64 0]) ∧ Hid (RB W' w' v (tagL l srs hl)) ∧ Hid (Bel W' w')) := Lib.hid (fun W' hh => retag_good W' A c l srs (h.below hh) hc hb (by omega) (HGL.out.below hh HGL.out.2.2) ho hs)
  have hro := open_retag ho hs
  have HRB : Hid (bytesOk (tagL l srs hl)) := Lib.hid (bytesOk_append (bytesOk_append (bytesOk_take hb 4) (bytes_nm _ _ _)) (bytesOk_drop hb 8))
  have HRL : Hid ((tagL l srs hl).length = l.length) := Lib.hid (tag_len srs ho).1
  have htb := tag_back srs hb ho
  dsimp only at hro htb
  have HOR : Hid (∀ A8 c8 W', CB W' A8 (tagL l srs hl) → (tagL l srs hl).length ≤ c8 → Bel w W' → Calls Tryd.prog 46 #[.slice A8 (tagL l srs hl).length c8] W' fun ex w' => ∃ k0 B1 m1 e1 B2 m2 e2, ex = .returned (.tuple #[.agg #[.int .i64 srs, .bool hl, .bool hx, .bool he, .bool hb2.no, .int .i64 hb2.lx, .int .i64 hb2.ly, .int .i64 hb2.hx, .int .i64 hb2.hy], .agg #[.int .i64 k0, .slice B1 m1 e1, .slice B2 m2 e2], .int .i64 0]) ∧ Hid (KW.M w' W'.heap.size (fun _ => True) s [.int .i64 k0, .slice B1 m1 e1, .slice B2 m2 e2]) ∧ Hid (Bel W' w')) := Lib.hid (fun A8 c8 W' h1 h2 hh => open_good W' A8 c8 _ h1 h2 HRB.out (by have := HRL.out; omega) (HGL.out.below hh HGL.out.2.2) hro)
  have HRR : Hid (∀ A8 c8 W', CB W' A8 (tagL l srs hl) → (tagL l srs hl).length ≤ c8 → Bel w W' → Calls Tryd.prog 49 #[.slice A8 (tagL l srs hl).length c8, .int .i64 s0] W' fun ex w' => ∃ v, ex = .returned (.tuple #[v, .int .i64 0]) ∧ Hid (RB W' w' v l) ∧ Hid (Bel W' w')) := Lib.hid (fun A8 c8 W' h1 h2 hh => by
    have := retag_good W' A8 c8 _ s0 h1 h2 HRB.out (by have := HRL.out; omega) (HGL.out.below hh HGL.out.2.2) hro hs0
    dsimp only at this
    rw [htb] at this
    exact this)
  obtain ⟨R, hR⟩ : ∃ R, tagL l srs hl = R := ⟨_, rfl⟩
  rw [hR] at HRT HRB HRL HOR HRR
  clear hs hro htb hR
  obtain ⟨b, hbe⟩ : ∃ b, boxOf s.flat = b := ⟨_, rfl⟩
  have hTL : blobB false true s0 s = blobL false true s0 s b := by unfold blobB; rw [if_pos ⟨hck, hs0⟩, hbe]
  have HLT : Hid ((blobL false true s0 s b).length < 100040) := Lib.hid (blobL_len hck).2
  have HBT := Lib.hid (bytes_blobL false true s0 s b)
  have hob := open_blob hck hin hs0 false true
  rw [hbe] at hob
  obtain ⟨BT, hBT⟩ : ∃ B, (true && !b.no) = B := ⟨_, rfl⟩
  rw [hBT] at hob
  obtain ⟨XT, hXT⟩ : ∃ X, (if BT = true then b else noneB) = X := ⟨_, rfl⟩
  have hob2 : openS boxOf (blobL false true s0 s b) = .ok ⟨s0, false, BT, b.no, XT⟩ s := by rw [hob]; unfold hdH; rw [hXT]
  obtain ⟨bn, hbn⟩ : ∃ x, b.no = x := ⟨_, rfl⟩
  rw [hbn] at hob2
  obtain ⟨T, hT⟩ : ∃ T, blobL false true s0 s b = T := ⟨_, rfl⟩
  rw [hT] at HLT HBT hob2 hTL
  rw [hTL] at HCN
  have HOT : Hid (∀ A8 c8 W', CB W' A8 T → T.length ≤ c8 → Bel w W' → Calls Tryd.prog 46 #[.slice A8 T.length c8] W' fun ex w' => ∃ k0 B1 m1 e1 B2 m2 e2, ex = .returned (.tuple #[.agg #[.int .i64 s0, .bool false, .bool BT, .bool bn, .bool XT.no, .int .i64 XT.lx, .int .i64 XT.ly, .int .i64 XT.hx, .int .i64 XT.hy], .agg #[.int .i64 k0, .slice B1 m1 e1, .slice B2 m2 e2], .int .i64 0]) ∧ Hid (KW.M w' W'.heap.size (fun _ => True) s [.int .i64 k0, .slice B1 m1 e1, .slice B2 m2 e2]) ∧ Hid (Bel W' w')) := Lib.hid (fun A8 c8 W' h1 h2 hh => open_good W' A8 c8 T h1 h2 HBT.out (by have := HLT.out; omega) (HGL.out.below hh HGL.out.2.2) hob2)
  have HCT : Hid (∀ A8 c8 W', CB W' A8 T → T.length ≤ c8 → Bel w W' → Calls Tryd.prog 48 #[.slice A8 T.length c8] W' fun ex w' => ∃ v, ex = .returned (.tuple #[v, .int .i64 0]) ∧ Hid (RB W' w' v T) ∧ Hid (Bel W' w')) := Lib.hid (fun A8 c8 W' h1 h2 hh => by
    have := canon_good W' A8 c8 T h1 h2 HBT.out (by have := HLT.out; omega) (HGL.out.below hh HGL.out.2.2) hob2
    rw [hTL] at this
    exact this)
  obtain ⟨t, ht⟩ : ∃ t, l.length = t := ⟨_, rfl⟩
  have HTL := Lib.hid ht
  rw [ht] at hl20 HOP HCN HRT HRL ⊢
  have hlt : ¬ (20000 : Int) < t := by omega
  obtain ⟨t8, ht8⟩ : ∃ t, T.length = t := ⟨_, rfl⟩
  rw [ht8] at HOT HCT
  have HT8 := Lib.hid ht8
  clear h hc hb hGl ht hl20 ho hck hin hs0 hbe hTL hob hBT hXT hob2 hbn hT ht8
  go_enter Tryd.func14, Tryd.ntmps14
  go_upto_region 4 with (go_at_call 46; refine (HOP.out _ (Bel.refl w)).mono ?_; rintro ex w3 ⟨k0, Ba0, ma0, ea0, Bb0, mb0, eb0, rfl, hM, bo⟩)
  have XD := (Blk.new w3 #[.int .i64 s0, .bool hl, .bool hx, .bool he, .bool hb2.no, .int .i64 hb2.lx, .int .i64 hb2.ly, .int .i64 hb2.hx, .int .i64 hb2.hy] 69).alloc (.cells #[.int .i64 k0, .slice Ba0 ma0 ea0, .slice Bb0 mb0 eb0] 25)
  have XS := Blk.new_at (W := w3.alloc (.cells #[.int .i64 s0, .bool hl, .bool hx, .bool he, .bool hb2.no, .int .i64 hb2.lx, .int .i64 hb2.ly, .int .i64 hb2.hx, .int .i64 hb2.hy] 69)) (g := w3.heap.size + 1) (by simp) #[.int .i64 k0, .slice Ba0 ma0 ea0, .slice Bb0 mb0 eb0] 25
  have HB4 : Hid (Bel w3 ((w3.alloc (.cells #[.int .i64 s0, .bool hl, .bool hx, .bool he, .bool hb2.no, .int .i64 hb2.lx, .int .i64 hb2.ly, .int .i64 hb2.hx, .int .i64 hb2.hy] 69)).alloc (.cells #[.int .i64 k0, .slice Ba0 ma0 ea0, .slice Bb0 mb0 eb0] 25))) := Lib.hid (((Bel.refl w3).alloc (Nat.le_refl _) _).alloc (by simp) _)
  obtain ⟨w4, hW⟩ : ∃ Y, ((w3.alloc (.cells #[.int .i64 s0, .bool hl, .bool hx, .bool he, .bool hb2.no, .int .i64 hb2.lx, .int .i64 hb2.ly, .int .i64 hb2.hx, .int .i64 hb2.hy] 69)).alloc (.cells #[.int .i64 k0, .slice Ba0 ma0 ea0, .slice Bb0 mb0 eb0] 25)) = Y := ⟨_, rfl⟩
  rw [hW] at XD XS HB4 ⊢
  clear hW
  have B4 := Lib.hid (bthen (Bel.refl w) (bthen bo.out HB4.out))
  have HM0 : Hid (∃ dd, ShB w4.heap.size w4 dd (.int .i64 k0, .slice Ba0 ma0 ea0, .slice Bb0 mb0 eb0) s) := Lib.hid (by
    obtain ⟨dd, hm⟩ := Kd.M_below (d := KW) hM.out HB4.out
    exact ⟨dd, MW.shB (c := (.int .i64 k0, .slice Ba0 ma0 ea0, .slice Bb0 mb0 eb0)) hm⟩)
  obtain ⟨gd0, hgd⟩ : ∃ x, w3.heap.size = x := ⟨_, rfl⟩
  rw [hgd] at XD XS ⊢
  obtain ⟨gx0, hgx⟩ : ∃ x, gd0 + 1 = x := ⟨_, rfl⟩
  rw [hgx] at XS ⊢
  have HXD0 := Lib.hid XD
  have HXS0 := Lib.hid XS
  clear hgd hgx hM bo HB4 XD XS
  clear hlt
  go_upto_region 5 with (go_at_call 48; refine (HCN.out _ B4.out).mono ?_; rintro ex w5 ⟨v8, rfl, hr8, hb8⟩; obtain ⟨A8, c8, hv, hcap8, hC8⟩ := hr8.out.reads; rw [HT8.out] at hv; subst hv)
  have HC8 := Lib.hid hC8
  have HK8 : Hid (t8 ≤ c8) := Lib.hid (by rw [← HT8.out]; exact hcap8)
  have B45 := Lib.hid hb8.out
  have B5 := Lib.hid (bthen B4.out hb8.out)
  clear hC8 hcap8 hr8 hb8
  go_upto_region 9 with (fail)
  have HOT5 := Lib.hid (HOT.out A8 c8 w5 HC8.out HK8.out B5.out)
  go_upto_region 10 with (go_at_call 46; refine (HOT5.out).mono ?_; rintro ex w6 ⟨k2, Ba2, ma2, ea2, Bb2, mb2, eb2, rfl, hM, bo⟩)
  have XD := (Blk.new w6 #[.int .i64 s0, .bool false, .bool BT, .bool bn, .bool XT.no, .int .i64 XT.lx, .int .i64 XT.ly, .int .i64 XT.hx, .int .i64 XT.hy] 69).alloc (.cells #[.int .i64 k2, .slice Ba2 ma2 ea2, .slice Bb2 mb2 eb2] 25)
  have XS := Blk.new_at (W := w6.alloc (.cells #[.int .i64 s0, .bool false, .bool BT, .bool bn, .bool XT.no, .int .i64 XT.lx, .int .i64 XT.ly, .int .i64 XT.hx, .int .i64 XT.hy] 69)) (g := w6.heap.size + 1) (by simp) #[.int .i64 k2, .slice Ba2 ma2 ea2, .slice Bb2 mb2 eb2] 25
  have HB4 : Hid (Bel w6 ((w6.alloc (.cells #[.int .i64 s0, .bool false, .bool BT, .bool bn, .bool XT.no, .int .i64 XT.lx, .int .i64 XT.ly, .int .i64 XT.hx, .int .i64 XT.hy] 69)).alloc (.cells #[.int .i64 k2, .slice Ba2 ma2 ea2, .slice Bb2 mb2 eb2] 25))) := Lib.hid (((Bel.refl w6).alloc (Nat.le_refl _) _).alloc (by simp) _)
  obtain ⟨w7, hW⟩ : ∃ Y, ((w6.alloc (.cells #[.int .i64 s0, .bool false, .bool BT, .bool bn, .bool XT.no, .int .i64 XT.lx, .int .i64 XT.ly, .int .i64 XT.hx, .int .i64 XT.hy] 69)).alloc (.cells #[.int .i64 k2, .slice Ba2 ma2 ea2, .slice Bb2 mb2 eb2] 25)) = Y := ⟨_, rfl⟩
  rw [hW] at XD XS HB4 ⊢
  clear hW
  have B7 := Lib.hid (bthen B5.out (bthen bo.out HB4.out))
  have B57 := Lib.hid (bthen bo.out HB4.out)
  have HM2 : Hid (∃ dd, ShB w7.heap.size w7 dd (.int .i64 k2, .slice Ba2 ma2 ea2, .slice Bb2 mb2 eb2) s) := Lib.hid (by
    obtain ⟨dd, hm⟩ := Kd.M_below (d := KW) hM.out HB4.out
    exact ⟨dd, MW.shB (c := (.int .i64 k2, .slice Ba2 ma2 ea2, .slice Bb2 mb2 eb2)) hm⟩)
  obtain ⟨gd2, hgd⟩ : ∃ x, w6.heap.size = x := ⟨_, rfl⟩
  rw [hgd] at XD XS ⊢
  obtain ⟨gx2, hgx⟩ : ∃ x, gd2 + 1 = x := ⟨_, rfl⟩
  rw [hgx] at XS ⊢
  have HXD2 := Lib.hid XD
  have HXS2 := Lib.hid XS
  clear hgd hgx hM bo HB4 XD XS
  have HC87 := Lib.hid (HC8.out.below B57.out)
  have HCT7 := Lib.hid (HCT.out A8 c8 w7 HC87.out HK8.out B7.out)
  clear HOT5
  go_upto_region 11 with (go_at_call 48; refine (HCT7.out).mono ?_; rintro ex w8 ⟨v13, rfl, hr13, hb13⟩; obtain ⟨A13, c13, hv, hcap13, hC13⟩ := hr13.out.reads; rw [HT8.out] at hv; subst hv)
  have B78 := Lib.hid hb13.out
  have B8 := Lib.hid (bthen B7.out B78.out)
  have B48 := Lib.hid (bthen B45.out (bthen B57.out B78.out))
  have hcv1 : (convert 49 9 (.slice A8 t8 c8)).run Tryd.prog w8 = .ok (.string (strOfNums T)) w8 := by have := (HC87.out.below B78.out).str (c := c8); rw [HT8.out] at this; exact this
  have hcv2 : (convert 49 9 (.slice A13 t8 c13)).run Tryd.prog w8 = .ok (.string (strOfNums T)) w8 := by have := hC13.str (c := c13); rw [HT8.out] at this; exact this
  have hst : ((strOfNums T).toList == (strOfNums T).toList) = true := by simp
  have hst2 : ((strOfNums T).toList != (strOfNums T).toList) = false := by simp
  have HEQ1 : Hid (Calls Tryd.prog 31 #[.agg #[.int .i64 k0, .slice Ba0 ma0 ea0, .slice Bb0 mb0 eb0], .agg #[.int .i64 k2, .slice Ba2 ma2 ea2, .slice Bb2 mb2 eb2]] w8 fun e w' => e = .returned (.bool true) ∧ Bel w8 w') := Lib.hid (by
    obtain ⟨d1, hs1⟩ := HM0.out
    obtain ⟨d2, hs2⟩ := HM2.out
    have := rEqual_calls d1 d2 s s (.int .i64 k0, .slice Ba0 ma0 ea0, .slice Bb0 mb0 eb0) (.int .i64 k2, .slice Ba2 ma2 ea2, .slice Bb2 mb2 eb2) w8 w8.heap.size (Nat.le_refl _) ((hs1.keep (KeepB.bel B48.out)).mono (Below.size B48.out)) ((hs2.keep (KeepB.bel B78.out)).mono (Below.size B78.out))
    rw [MShape.eqS_refl] at this
    exact this)
  obtain ⟨x0, x1, x2⟩ := Blk.cells3 (Blk.bel HXS0.out B48.out)
  obtain ⟨y0, y1, y2⟩ := Blk.cells3 (Blk.bel HXS2.out B78.out)
  have hss : (s0 == s0) = true := by simp
  have hss2 : (s0 != s0) = false := by simp
  clear hcap13 hC13 hr13 hb13 HCT7 HOT HCT
  go_upto_region 13 with (go_at_call 31; refine (HEQ1.out).mono ?_; rintro ex w9 ⟨rfl, b9⟩; have B89 := Lib.hid b9; have d0 : w9.cell? ⟨gd0, 0, none⟩ = some (.int .i64 s0) := (Blk.bel HXD0.out (bthen B48.out b9)).cell 0 rfl; have d2 : w9.cell? ⟨gd2, 0, none⟩ = some (.int .i64 s0) := (Blk.bel HXD2.out (bthen B78.out b9)).cell 0 rfl; have d3 : w9.cell? ⟨gd2, 1, none⟩ = some (.bool false) := (Blk.bel HXD2.out (bthen B78.out b9)).cell 1 rfl; clear b9 x0 x1 x2 y0 y1 y2 hcv1 hcv2)
  clear d0 d2 d3 hst hst2 hss hss2
  have B9 := Lib.hid (bthen B8.out B89.out)
  have B49 := Lib.hid (bthen B48.out B89.out)
  go_upto_region 14 with (go_at_call 49; refine (HRT.out _ B9.out).mono ?_; rintro ex w10 ⟨v15, rfl, hr15, hb15⟩; obtain ⟨A15, c15, hv, hcap15, hC15⟩ := hr15.out.reads; rw [HRL.out] at hv; subst hv)
  have HC15 := Lib.hid hC15
  have HK15 := Lib.hid hcap15
  have B910 := Lib.hid hb15.out
  have B10 := Lib.hid (bthen B9.out hb15.out)
  clear hC15 hcap15 hr15 hb15
  go_upto_region 16 with (fail)
  have HOR10 := Lib.hid (HOR.out A15 c15 w10 HC15.out HK15.out B10.out)
  have hro := HOR10.out
  rw [HRL.out] at hro
  have HOR11 := Lib.hid hro
  clear HOR10 hro
  go_upto_region 17 with (go_at_call 46; refine (HOR11.out).mono ?_; rintro ex w11 ⟨k3, Ba3, ma3, ea3, Bb3, mb3, eb3, rfl, hM, bo⟩)
  have XD := (Blk.new w11 #[.int .i64 srs, .bool hl, .bool hx, .bool he, .bool hb2.no, .int .i64 hb2.lx, .int .i64 hb2.ly, .int .i64 hb2.hx, .int .i64 hb2.hy] 69).alloc (.cells #[.int .i64 k3, .slice Ba3 ma3 ea3, .slice Bb3 mb3 eb3] 25)
  have XS := Blk.new_at (W := w11.alloc (.cells #[.int .i64 srs, .bool hl, .bool hx, .bool he, .bool hb2.no, .int .i64 hb2.lx, .int .i64 hb2.ly, .int .i64 hb2.hx, .int .i64 hb2.hy] 69)) (g := w11.heap.size + 1) (by simp) #[.int .i64 k3, .slice Ba3 ma3 ea3, .slice Bb3 mb3 eb3] 25
  have HB4 : Hid (Bel w11 ((w11.alloc (.cells #[.int .i64 srs, .bool hl, .bool hx, .bool he, .bool hb2.no, .int .i64 hb2.lx, .int .i64 hb2.ly, .int .i64 hb2.hx, .int .i64 hb2.hy] 69)).alloc (.cells #[.int .i64 k3, .slice Ba3 ma3 ea3, .slice Bb3 mb3 eb3] 25))) := Lib.hid (((Bel.refl w11).alloc (Nat.le_refl _) _).alloc (by simp) _)
  obtain ⟨w12, hW⟩ : ∃ Y, ((w11.alloc (.cells #[.int .i64 srs, .bool hl, .bool hx, .bool he, .bool hb2.no, .int .i64 hb2.lx, .int .i64 hb2.ly, .int .i64 hb2.hx, .int .i64 hb2.hy] 69)).alloc (.cells #[.int .i64 k3, .slice Ba3 ma3 ea3, .slice Bb3 mb3 eb3] 25)) = Y := ⟨_, rfl⟩
  rw [hW] at XD XS HB4 ⊢
  clear hW
  have B12 := Lib.hid (bthen B10.out (bthen bo.out HB4.out))
  have B1012 := Lib.hid (bthen bo.out HB4.out)
  have HM3 : Hid (∃ dd, ShB w12.heap.size w12 dd (.int .i64 k3, .slice Ba3 ma3 ea3, .slice Bb3 mb3 eb3) s) := Lib.hid (by
    obtain ⟨dd, hm⟩ := Kd.M_below (d := KW) hM.out HB4.out
    exact ⟨dd, MW.shB (c := (.int .i64 k3, .slice Ba3 ma3 ea3, .slice Bb3 mb3 eb3)) hm⟩)
  obtain ⟨gd3, hgd⟩ : ∃ x, w11.heap.size = x := ⟨_, rfl⟩
  rw [hgd] at XD XS ⊢
  obtain ⟨gx3, hgx⟩ : ∃ x, gd3 + 1 = x := ⟨_, rfl⟩
  rw [hgx] at XS ⊢
  have HXD3 := Lib.hid XD
  have HXS3 := Lib.hid XS
  clear hgd hgx hM bo HB4 XD XS
  have B412 := Lib.hid (bthen B49.out (bthen B910.out B1012.out))
  have d0 : w12.cell? ⟨gd0, 0, none⟩ = some (.int .i64 s0) := (Blk.bel HXD0.out B412.out).cell 0 rfl
  have hrr := HRR.out A15 c15 w12 (HC15.out.below B1012.out) HK15.out B12.out
  rw [HRL.out] at hrr
  have HRR12 := Lib.hid hrr
  clear hrr HOR11
  go_upto_region 18 with (go_at_call 49; refine (HRR12.out).mono ?_; rintro ex w13 ⟨v20, rfl, hr20, hb20⟩; obtain ⟨A20, c20, hv, hcap20, hC20⟩ := hr20.out.reads; rw [HTL.out] at hv; subst hv)
  have HC20 := Lib.hid hC20
  have B1213 := Lib.hid hb20.out
  have B13 := Lib.hid (bthen B12.out hb20.out)
  have B413 := Lib.hid (bthen B412.out B1213.out)
  clear hC20 hcap20 hr20 hb20 d0
  have HEQ2 : Hid (Calls Tryd.prog 31 #[.agg #[.int .i64 k0, .slice Ba0 ma0 ea0, .slice Bb0 mb0 eb0], .agg #[.int .i64 k3, .slice Ba3 ma3 ea3, .slice Bb3 mb3 eb3]] w13 fun e w' => e = .returned (.bool true) ∧ Bel w13 w') := Lib.hid (by
    obtain ⟨d1, hs1⟩ := HM0.out
    obtain ⟨d2, hs2⟩ := HM3.out
    have := rEqual_calls d1 d2 s s (.int .i64 k0, .slice Ba0 ma0 ea0, .slice Bb0 mb0 eb0) (.int .i64 k3, .slice Ba3 ma3 ea3, .slice Bb3 mb3 eb3) w13 w13.heap.size (Nat.le_refl _) ((hs1.keep (KeepB.bel B413.out)).mono (Below.size B413.out)) ((hs2.keep (KeepB.bel B1213.out)).mono (Below.size B1213.out))
    rw [MShape.eqS_refl] at this
    exact this)
  obtain ⟨x0, x1, x2⟩ := Blk.cells3 (Blk.bel HXS0.out B413.out)
  obtain ⟨y0, y1, y2⟩ := Blk.cells3 (Blk.bel HXS3.out B1213.out)
  have d3 : w13.cell? ⟨gd3, 0, none⟩ = some (.int .i64 srs) := (Blk.bel HXD3.out B1213.out).cell 0 rfl
  have hss : (srs == srs) = true := by simp
  have hst : ((strOfNums l).toList == (strOfNums l).toList) = true := by simp
  have hst2 : ((strOfNums l).toList != (strOfNums l).toList) = false := by simp
  go_wp2_with (first
    | (go_at_call 40; refine (HLV.out _ (bthen B13.out B1317.out)).mono ?_; rintro e w14 ⟨rfl, b14⟩; have B14 := Lib.hid b14; clear b14)
    | (go_at_call 31; refine (HEQ2.out).mono ?_; rintro ex w17 ⟨rfl, b17⟩; have B1317 := Lib.hid b17; have hcv1 : (convert 49 9 (.slice A20 t c20)).run Tryd.prog w17 = .ok (.string (strOfNums l)) w17 := (by have := (HC20.out.below b17).str (c := c20); rw [HTL.out] at this; exact this); have hcv2 : (convert 49 9 (.slice A t c)).run Tryd.prog w17 = .ok (.string (strOfNums l)) w17 := (by have := (HC.out.below (bthen B13.out b17)).str (c := c); rw [HTL.out] at this; exact this); clear b17 x0 x1 x2 y0 y1 y2 d3))
  go_ret
  exact ⟨by first | rfl | simp, bthen (bthen B13.out B1317.out) B14.out⟩
theorem canons_calls (w : World) (A : Option Addr) (c : Nat) (l : List Int) (srs : Int) (h : CB w A l) (hc : l.length ≤ c) (hb : bytesOk l) (hGl : Gl w) :
    Calls Tryd.prog 14 #[.slice A l.length c, .int .i64 srs] w fun ex w' => ex = .returned (.bool true) ∧ Bel w w' := by
  by_cases hl : 20000 < l.length
  · exact canons_long w A c l srs h hc hb hGl hl
  cases ho : openS boxOf l with
  | bad e => exact canons_bad w A c l srs h hc hb hGl hl ho (open_bad_ne ho)
  | ok hd s =>
    cases hs : srsOk srs with
    | false => exact canons_arg w A c l srs h hc hb hGl hl ho hs
    | true => exact canons_good w A c l srs h hc hb hGl hl ho hs
theorem BlobCanons_calls {w : World} (A : Option Addr) (c : Nat) (l : List Int) (hC : (Kd.int .u8).C w A l.length l) (hc : l.length ≤ c) (hq : (∀ x ∈ l, (Lit.int .u8 x).wf = true) ∧ l.length ≤ 9223372036854775807) (srs : Int) (hs : (Lit.int .i64 srs).wf = true) (hw2 : 2 ≤ w.heap.size) (hF : FormsAt w) (hN : NowAt w) :
    Calls Tryd.prog 14 #[.slice A l.length c, .int .i64 srs] w fun ex w' => ex = .returned (.bool true) ∧ Below w.heap.size w w' :=
  canons_calls w A c l srs hC hc (bytesOk_wf hq.1) ⟨hF, hN, hw2⟩
end Go.Proofs.YtfknhpgelleenaaDoor.K
end
