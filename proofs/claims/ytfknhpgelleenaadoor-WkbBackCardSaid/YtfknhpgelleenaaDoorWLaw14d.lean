/- WkbBack walked. -/
import Derived.Test.YtfknhpgelleenaaDoorKB
import Derived.Handy
import Derived.Test.YtfknhpgelleenaaDoorRD3
import Derived.Test.YtfknhpgelleenaaDoorWEncB
import Derived.Test.YtfknhpgelleenaaDoorWREqual
import Derived.Test.YtfknhpgelleenaaDoorKRC
import Derived.Test.YtfknhpgelleenaaDoorKWW
import Derived.IntWalk
import Derived.Deep.RegionLaw
namespace Go.Proofs.YtfknhpgelleenaaDoor.K
open Go Go.RowKit Go.Proofs.YtfknhpgelleenaaDoorW.PrintWords Go.Proofs.YtfknhpgelleenaaDoorW.PrintLast Go.Proofs.YtfknhpgelleenaaDoorW.PrintMore
set_option linter.unusedVariables false
set_option linter.unusedSimpArgs false
open Go.Proofs.YtfknhpgelleenaaDoor.MShape (Sh flats)
open Go.Proofs.YtfknhpgelleenaaDoor.MRead (decodeS readS inS inI)
set_option maxHeartbeats 8000000 in
set_option maxRecDepth 100000 in
theorem back_calls (D : Nat) (s : Sh) (c : Value × Value × Value) (o : Bool) (A1 A2 : Option Addr) (c1 c2 : Nat) (l1 l2 : List Int) (w : World) (hw2 : 2 ≤ w.heap.size) (hs : ShB w.heap.size w D c s) (hok : shOk s) (hF : FormsAt w) (hN : NowAt w)
    (h1 : CB w A1 l1) (hc1 : l1.length ≤ c1) (hb1 : bytesOk l1) (h2 : CB w A2 l2) (hc2 : l2.length ≤ c2) (hb2 : bytesOk l2) :
    Calls Tryd.prog 11 #[.agg #[c.1, c.2.1, c.2.2], .bool o, .agg #[.slice A1 l1.length c1, .slice A2 l2.length c2]] w fun e w' => e = .returned (.bool true) ∧ Bel w w' := by
  have HE := Lib.hid (fun oo W h1 h2 h3 h4 h5 => encode_calls D s c oo W w.heap.size h1 h2 h3 h4 h5)
  have HR := Lib.hid (fun W h1 h2 => rcheck_calls D s c W w.heap.size h1 h2)
  have HS := Lib.hid hs
  have HOK := Lib.hid (flat_in hok)
  obtain ⟨kd, u1, u2, u3, u4, u5, u6, rfl⟩ := hs.forms
  dsimp only at HE HR HS ⊢
  have HGL : Hid (Gl w) := Lib.hid ⟨hF, hN, hw2⟩
  have H1 := Lib.hid h1
  have H2 := Lib.hid h2
  have HC1 := Lib.hid hc1
  have HC2 := Lib.hid hc2
  have HBY1 := Lib.hid hb1
  have HBY2 := Lib.hid hb2
  have hm1 := h1.2.1
  have hm2 := h2.2.1
  have S := (Blk.new w #[.int .i64 kd, .slice u1 u2 u3, .slice u4 u5 u6] 25).alloc (.cells #[.slice A1 l1.length c1, .slice A2 l2.length c2] 62)
  have Y := Blk.new_at (W := w.alloc (.cells #[.int .i64 kd, .slice u1 u2 u3, .slice u4 u5 u6] 25)) (g := w.heap.size + 1) (by simp) #[.slice A1 l1.length c1, .slice A2 l2.length c2] 62
  have HB : Hid (Bel w ((w.alloc (.cells #[.int .i64 kd, .slice u1 u2 u3, .slice u4 u5 u6] 25)).alloc (.cells #[.slice A1 l1.length c1, .slice A2 l2.length c2] 62))) := Lib.hid (by repeat (first | exact Below.refl _ _ | refine Below.alloc ?_ (by simp <;> omega) _))
  clear hs hF hN hw2 hok h1 h2 hc1 hc2 hb1 hb2
  go_enter Tryd.func11, Tryd.ntmps11
  go_upto_region 1 with (fail)
  obtain ⟨W1, hW⟩ : ∃ X, (w.alloc (.cells #[.int .i64 kd, .slice u1 u2 u3, .slice u4 u5 u6] 25)).alloc (.cells #[.slice A1 l1.length c1, .slice A2 l2.length c2] 62) = X := ⟨_, rfl⟩
  rw [hW] at S Y HB ⊢
  clear hW
  obtain ⟨gs, hg⟩ : ∃ X, w.heap.size = X := ⟨_, rfl⟩
  rw [hg] at S ⊢
  have HGS := Lib.hid hg
  obtain ⟨gy, hgy⟩ : ∃ X, gs + 1 = X := ⟨_, rfl⟩
  rw [hg, hgy] at Y
  rw [hgy]
  clear hg hgy
  have HLV : Hid (∀ W', Bel w W' → Calls Tryd.prog 37 #[] W' fun e w'' => e = .returned (.bool true) ∧ Bel W' w'') := Lib.hid (fun W' h => lives14 W' (Nat.le_trans HGL.out.2.2 h.size) (HGL.out.1.bel h) (HGL.out.2.1.below HGL.out.2.2 h))
  have HE1 : Hid (∀ W', Bel w W' → Calls Tryd.prog 35 #[.agg #[.int .i64 kd, .slice u1 u2 u3, .slice u4 u5 u6], .bool o] W' fun e w'' => ∃ v, e = .returned v ∧ Hid (RB W' w'' v (encB o s)) ∧ Hid (Bel W' w'')) := Lib.hid (fun W' h => HE.out o W' h.size (Nat.le_trans HGL.out.2.2 h.size) (HS.out.keep (KeepB.bel h)) (HGL.out.1.bel h) (HGL.out.2.1.below HGL.out.2.2 h))
  have HR1 : Hid (∀ W', Bel w W' → Calls Tryd.prog 42 #[.agg #[.int .i64 kd, .slice u1 u2 u3, .slice u4 u5 u6]] W' fun e w' => e = .returned (.int .i64 (MShape.check s)) ∧ Bel W' w') := Lib.hid (fun W' h => HR.out W' h.size (HS.out.keep (KeepB.bel h)))
  obtain ⟨s0, s1, s2⟩ := Blk.cells3 S
  have y0 : W1.cell? ⟨gy, 0, none⟩ = some (.slice A1 l1.length c1) := Y.cell 0 rfl
  have y1 : W1.cell? ⟨gy, 1, none⟩ = some (.slice A2 l2.length c2) := Y.cell 1 rfl
  have HSB := Lib.hid S
  clear S Y HE HR
  go_cut [7, 8] from 17 (fun v7 v8 W' => v7 = .slice A1 l1.length c1 ∧ v8 = .slice A2 l2.length c2 ∧ Hid (Bel W1 W'))
  case first =>
    go_region_law (fail)
    all_goals
      go_wp2
      go_meet
      exact ⟨rfl, rfl, Lib.hid (Bel.drew _)⟩
  case rest =>
  obtain ⟨rfl, rfl, HB1⟩ := hcut
  have B2 := Lib.hid (bthen HB.out HB1.out)
  have S2 := Blk.bel HSB.out HB1.out
  clear s0 s1 s2 y0 y1
  obtain ⟨s0, s1, s2⟩ := Blk.cells3 S2
  have HS2 := Lib.hid S2
  clear S2
  obtain ⟨n1, hn1⟩ : ∃ n, l1.length = n := ⟨_, rfl⟩
  obtain ⟨n2, hn2⟩ : ∃ n, l2.length = n := ⟨_, rfl⟩
  rw [hn1] at HC1 hm1 ⊢
  rw [hn2] at HC2 hm2 ⊢
  have HN1 := Lib.hid hn1
  have HN2 := Lib.hid hn2
  clear hn1 hn2
  by_cases g1 : 500 < n1
  · have g1' : (500 : Int) < n1 := by omega
    go_wp2_with (go_at_call 37; refine (HLV.out _ B2.out).mono ?_; rintro e w9 ⟨rfl, b9⟩; have B9 := Lib.hid b9; clear b9)
    go_ret
    exact ⟨rfl, bthen B2.out B9.out⟩
  by_cases g2 : 20000 < n2
  · have g1' : ¬ (500 : Int) < n1 := by omega
    have g2' : (20000 : Int) < n2 := by omega
    go_wp2_with (go_at_call 37; refine (HLV.out _ B2.out).mono ?_; rintro e w9 ⟨rfl, b9⟩; have B9 := Lib.hid b9; clear b9)
    go_ret
    exact ⟨rfl, bthen B2.out B9.out⟩
  have g1' : ¬ (500 : Int) < n1 := by omega
  have g2' : ¬ (20000 : Int) < n2 := by omega
  have G12 := Lib.hid (show n1 ≤ 500 ∧ n2 ≤ 20000 by omega)
  clear g1 g2
  go_upto_region 4 with (fail)
  clear g1' g2' hm1 hm2
  have HRD : Hid (Calls Tryd.prog 44 #[.slice A2 n2 c2] wc fun ex w' => ∃ k0 B1 m1 e1 B2 m2 e2, ex = .returned (.tuple #[.agg #[.int .i64 k0, .slice B1 m1 e1, .slice B2 m2 e2], .int .i64 (readS l2).2]) ∧
      Hid (KW.M w' wc.heap.size (fun _ => True) (readS l2).1 [.int .i64 k0, .slice B1 m1 e1, .slice B2 m2 e2]) ∧ Hid (Bel wc w')) := Lib.hid (by
    have := read_calls wc A2 c2 l2 (H2.out.below B2.out) HBY2.out (by rw [HN2.out]; exact HC2.out) (by rw [HN2.out]; have := G12.out; omega) (HGL.out.below B2.out HGL.out.2.2)
    rw [HN2.out] at this
    exact this)
  have HRI : Hid ((readS l2).2 = 0 → MShape.check (readS l2).1 = 0 ∧ ∀ o, (MWkb.enc o (readS l2).1).length = n2) := Lib.hid (fun h => by have := MRead.read_is h; rw [HN2.out] at this; exact this)
  obtain ⟨⟨xs, re⟩, hre⟩ : ∃ x, readS l2 = x := ⟨_, rfl⟩
  rw [hre] at HRD HRI
  clear hre
  dsimp only at HRD HRI
  have b0 := True.intro
  by_cases hre0 : re = 0
  · subst hre0
    obtain ⟨hx1, hx2⟩ := HRI.out rfl
    have HX1 := Lib.hid hx1
    have HX2 := Lib.hid hx2
    clear hx1 hx2
    go_upto_region 5 with (go_at_call 44; refine (HRD.out).mono ?_; rintro e w3 ⟨k0, B1, m1, e1, B2', m2, e2, rfl, hM, b3⟩)
    have X := Blk.new w3 #[.int .i64 k0, .slice B1 m1 e1, .slice B2' m2 e2] 25
    have HB4 : Hid (Bel w3 (w3.alloc (.cells #[.int .i64 k0, .slice B1 m1 e1, .slice B2' m2 e2] 25))) := Lib.hid ((Bel.refl w3).alloc (Nat.le_refl _) _)
    obtain ⟨w4, hW⟩ : ∃ X, w3.alloc (.cells #[.int .i64 k0, .slice B1 m1 e1, .slice B2' m2 e2] 25) = X := ⟨_, rfl⟩
    rw [hW] at X HB4 ⊢
    clear hW
    obtain ⟨gx, hgx⟩ : ∃ x, w3.heap.size = x := ⟨_, rfl⟩
    rw [hgx] at X ⊢
    clear hgx
    have HXB := Lib.hid X
    have B4 := Lib.hid (bthen B2.out (bthen b3.out HB4.out))
    have HS4 := Lib.hid (Blk.bel HS2.out (bthen b3.out HB4.out))
    have HXS : Hid (∃ dd, ShB w4.heap.size w4 dd (.int .i64 k0, .slice B1 m1 e1, .slice B2' m2 e2) xs) := Lib.hid (by
      obtain ⟨dd, hm⟩ := Kd.M_below (d := KW) hM.out HB4.out
      exact ⟨dd, MW.shB (c := (.int .i64 k0, .slice B1 m1 e1, .slice B2' m2 e2)) hm⟩)
    have HSZ : Hid (Calls Tryd.prog 36 #[.agg #[.int .i64 k0, .slice B1 m1 e1, .slice B2' m2 e2]] w4 fun e w' => e = .returned (.int .i64 n2) ∧ Bel w4 w') := Lib.hid (by
      obtain ⟨dd, hsh⟩ := HXS.out
      have := size_calls dd xs (.int .i64 k0, .slice B1 m1 e1, .slice B2' m2 e2) w4 w4.heap.size (Nat.le_refl _) (Nat.le_trans HGL.out.2.2 B4.out.size) hsh (HGL.out.1.bel B4.out) (HGL.out.2.1.below HGL.out.2.2 B4.out)
      rw [show (encB false xs).length = n2 from by unfold encB; rw [if_pos HX1.out]; exact HX2.out false] at this
      exact this)
    have HEX : Hid (∀ W', Bel w4 W' → Calls Tryd.prog 35 #[.agg #[.int .i64 k0, .slice B1 m1 e1, .slice B2' m2 e2], .bool true] W' fun e w' => ∃ A' c', e = .returned (.slice A' n2 c') ∧ Bel W' w') := Lib.hid (fun W' h => by
      obtain ⟨dd, hsh⟩ := HXS.out
      have := encode_calls dd xs (.int .i64 k0, .slice B1 m1 e1, .slice B2' m2 e2) true W' w4.heap.size h.size (Nat.le_trans HGL.out.2.2 (bthen B4.out h).size) (hsh.keep (KeepB.bel h)) (HGL.out.1.bel (bthen B4.out h)) (HGL.out.2.1.below HGL.out.2.2 (bthen B4.out h))
      refine this.mono ?_
      rintro e w' ⟨v, rfl, hr, hb⟩
      obtain ⟨A', c', hv, -, -⟩ := hr.out.reads
      rw [show (encB true xs).length = n2 from by unfold encB; rw [if_pos HX1.out]; exact HX2.out true] at hv
      exact ⟨A', c', by rw [hv], hb.out⟩)
    clear s0 s1 s2
    obtain ⟨x0, x1, x2⟩ := Blk.cells3 X
    go_upto_region 7 with (first
      | (go_at_call 35; refine (HEX.out _ B45.out).mono ?_; rintro e w5 ⟨A', c', rfl, b5⟩; have B5 := Lib.hid (bthen B4.out (bthen B45.out b5)); have B55 := Lib.hid (bthen B45.out b5); clear b5)
      | (go_at_call 36; refine (HSZ.out).mono ?_; rintro e w45 ⟨rfl, b45⟩; have B45 := Lib.hid b45; clear b45 x0 x1 x2; obtain ⟨x0, x1, x2⟩ := Blk.cells3 (Blk.bel HXB.out B45.out)))
    have HS5 := Lib.hid (Blk.bel HS4.out B55.out)
    obtain ⟨s0, s1, s2⟩ := Blk.cells3 HS5.out
    by_cases hck : MShape.check s = 0
    · rw [hck] at HR1
      have hX : encB o s = MWkb.enc o s := by unfold encB; rw [if_pos hck]
      rw [hX] at HE1
      have HLEN : Hid ((MWkb.enc o s).length < 100000) := Lib.hid (by rw [← hX]; exact encB_len o s)
      have HBK : Hid (decodeS (MWkb.enc o s ++ l1) = (s, ((MWkb.enc o s).length : Int), 0)) := Lib.hid (MRead.back_decode hck HOK.out o l1)
      have HBY := Lib.hid (bytes_enc o s)
      have HMK : Hid (∃ r, MWkb.enc o s = MWkb.mark o :: r) := Lib.hid (by cases s; unfold MWkb.enc; exact ⟨_, rfl⟩)
      obtain ⟨T, hT⟩ : ∃ T, MWkb.enc o s = T := ⟨_, rfl⟩
      rw [hT] at HE1 HLEN HBK HBY HMK
      clear hX hT hck
      go_upto_region 10 with (first
        | (go_at_call 35; refine (HE1.out _ B6.out).mono ?_; rintro e w7 ⟨v7, rfl, r7, b7⟩; obtain ⟨A, cap, hv7, hcap, hC⟩ := r7.out.reads; subst hv7; have B7 := Lib.hid (bthen B6.out b7.out); have HCT := Lib.hid hC; have HCP := Lib.hid hcap; have HS7 := Lib.hid (Blk.bel HS6.out b7.out); clear hC hcap s0 s1 s2)
        | (go_at_call 42; refine (HR1.out _ B5.out).mono ?_; rintro e w6 ⟨rfl, b6⟩; have B6 := Lib.hid (bthen B5.out b6); have HS6 := Lib.hid (Blk.bel HS5.out b6); clear b6 s0 s1 s2; obtain ⟨s0, s1, s2⟩ := Blk.cells3 HS6.out))
      have HORD : Hid (∀ W', CB W' A T → Calls Tryd.prog 45 #[.slice A T.length cap] W' fun e w' => e = .returned (.tuple #[.bool o, .bool true]) ∧ W' = w') := Lib.hid (fun W' h => by
        obtain ⟨r, hr⟩ := HMK.out
        subst hr
        exact order_calls W' A cap r o h)
      obtain ⟨t, ht⟩ : ∃ t, T.length = t := ⟨_, rfl⟩
      rw [ht] at HLEN HBK HCP HORD ⊢
      have HTT := Lib.hid ht
      clear ht
      go_upto_region 11 with (first
        | (at_builtin; refine appN (w0 := w7) (.tmp 69) (.tmp 70) rfl rfl v8 ([] ++ T) l1 A1 c1 rfl (by rw [HN1.out]; rfl) h8.out (H1.out.below (bthen B7.out hb8.out)) hb8.out (by rw [List.nil_append, HTT.out, HN1.out]; have := HLEN.out; have := G12.out; omega) ?_
           intro v9 w9 h9 hb9
           obtain ⟨A9, c9, hv9, hc9, hC9⟩ := h9.out.reads
           obtain ⟨n9, hn9⟩ : ∃ n, ([] ++ T ++ l1).length = n := ⟨_, rfl⟩
           rw [hn9] at hv9
           subst hv9
           have HDC : Hid (Calls Tryd.prog 43 #[.slice A9 n9 c9] w9 fun ex w' => ∃ k0 B1 m1 e1 B2 m2 e2, ex = .returned (.tuple #[.agg #[.int .i64 k0, .slice B1 m1 e1, .slice B2 m2 e2], .int .i64 t, .int .i64 0]) ∧ Hid (KW.M w' w9.heap.size (fun _ => True) s [.int .i64 k0, .slice B1 m1 e1, .slice B2 m2 e2]) ∧ Hid (Bel w9 w')) := Lib.hid (by
             have := decode_calls w9 A9 c9 ([] ++ T ++ l1) hC9 (by rw [List.nil_append]; exact bytesOk_append HBY.out HBY1.out) hc9 (by rw [List.nil_append, List.length_append, HTT.out, HN1.out]; have := HLEN.out; have := G12.out; omega) (HGL.out.below (bthen B7.out hb9.out) HGL.out.2.2)
             rw [show decodeS ([] ++ T ++ l1) = (s, (t : Int), 0) from by rw [List.nil_append]; exact HBK.out, hn9] at this
             exact this)
           clear hc9 hC9 h9 hn9)
        | (at_builtin; refine appN (w0 := w7) (.tmp 67) (.tmp 68) rfl rfl (.slice (some ⟨w7.heap.size, 0, none⟩) 0 0) [] T A cap rfl (by rw [HTT.out]; rfl) (RB.lit0 (Nat.le_refl _)) (HCT.out.alloc _) ((Below.refl _ w7).alloc (Nat.le_refl _) _) (by rw [HTT.out]; have := HLEN.out; simp; omega) ?_
           intro v8 w8 h8 hb8)
        | (go_at_call 43; refine (HDC.out).mono ?_; rintro e w10 ⟨k9, C1, p1, q1, C2, p2, q2, rfl, hM9, b10⟩))
      have X9 := Blk.new w10 #[.int .i64 k9, .slice C1 p1 q1, .slice C2 p2 q2] 25
      have HB10 : Hid (Bel w10 (w10.alloc (.cells #[.int .i64 k9, .slice C1 p1 q1, .slice C2 p2 q2] 25))) := Lib.hid ((Bel.refl w10).alloc (Nat.le_refl _) _)
      obtain ⟨w11, hW⟩ : ∃ X, w10.alloc (.cells #[.int .i64 k9, .slice C1 p1 q1, .slice C2 p2 q2] 25) = X := ⟨_, rfl⟩
      rw [hW] at X9 HB10 ⊢
      clear hW
      obtain ⟨gz, hgz⟩ : ∃ x, w10.heap.size = x := ⟨_, rfl⟩
      rw [hgz] at X9 ⊢
      clear hgz
      have B711 : Hid (Bel w7 w11) := Lib.hid (bthen (bthen hb9.out b10.out) HB10.out)
      have B11 := Lib.hid (bthen B7.out B711.out)
      have S11 := Blk.bel HS7.out B711.out
      obtain ⟨s0, s1, s2⟩ := Blk.cells3 S11
      obtain ⟨z0, z1, z2⟩ := Blk.cells3 X9
      have HO11 := Lib.hid (HORD.out w11 (HCT.out.below B711.out))
      have HEQ : Hid (Calls Tryd.prog 31 #[.agg #[.int .i64 k9, .slice C1 p1 q1, .slice C2 p2 q2], .agg #[.int .i64 kd, .slice u1 u2 u3, .slice u4 u5 u6]] w11 fun e w' => e = .returned (.bool true) ∧ Bel w11 w') := Lib.hid (by
        obtain ⟨dd, hm⟩ := Kd.M_below (d := KW) hM9.out HB10.out
        have := rEqual_calls dd D s s (.int .i64 k9, .slice C1 p1 q1, .slice C2 p2 q2) (.int .i64 kd, .slice u1 u2 u3, .slice u4 u5 u6) w11 w11.heap.size (Nat.le_refl _) (MW.shB (c := (.int .i64 k9, .slice C1 p1 q1, .slice C2 p2 q2)) hm) ((HS.out.keep (KeepB.bel B11.out)).mono B11.out.size)
        rw [MShape.eqS_refl] at this
        exact this)
      clear S11 X9
      have hoo : (o == o) = true := by simp
      go_wp2_with (first
        | (go_at_call 37; refine (HLV.out _ (bthen B11.out B12.out)).mono ?_; rintro e w13 ⟨rfl, b13⟩; have B13 := Lib.hid b13; clear b13)
        | (go_at_call 31; refine (HEQ.out).mono ?_; rintro e w12 ⟨rfl, b12⟩; have B12 := Lib.hid b12; clear b12)
        | (go_at_call 45; refine (HO11.out).mono ?_; rintro e w9 ⟨rfl, rfl⟩))
      go_ret
      exact ⟨by first | rfl | simp, bthen (bthen B11.out B12.out) B13.out⟩
    · obtain ⟨ck, hck2⟩ : ∃ ck, MShape.check s = ck := ⟨_, rfl⟩
      have hX : encB o s = [] := by unfold encB; rw [if_neg hck]
      rw [hX] at HE1
      rw [hck2] at HR1 hck
      have hckz : (ck == 0) = false := by simpa using hck
      have hckn : (ck != 0) = true := by simpa using hck
      clear hX hck2 hck
      go_wp2_with (first
        | (go_at_call 37; refine (HLV.out _ B7.out).mono ?_; rintro e w8 ⟨rfl, b8⟩; have B8 := Lib.hid b8; clear b8)
        | (go_at_call 35; refine (HE1.out _ B6.out).mono ?_; rintro e w7 ⟨v7, rfl, r7, b7⟩; obtain ⟨A, cap, hv7, hcap, hC⟩ := r7.out.reads; subst hv7; have B7 := Lib.hid (bthen B6.out b7.out))
        | (go_at_call 42; refine (HR1.out _ B5.out).mono ?_; rintro e w6 ⟨rfl, b6⟩; have B6 := Lib.hid (bthen B5.out b6); have HS6 := Lib.hid (Blk.bel HS5.out b6); clear b6 s0 s1 s2; obtain ⟨s0, s1, s2⟩ := Blk.cells3 HS6.out))
      go_ret
      exact ⟨by first | rfl | simp, bthen B7.out B8.out⟩
  · have hre1 : (re == 0) = false := by simpa using hre0
    clear hre0
    go_upto_region 7 with (go_at_call 44; refine (HRD.out).mono ?_; rintro e w3 ⟨k0, B1, m1, e1, B2', m2, e2, rfl, hM, b3⟩)
    have HB4 : Hid (Bel wc (w3.alloc (.cells #[.int .i64 k0, .slice B1 m1 e1, .slice B2' m2 e2] 25))) := Lib.hid (bthen b3.out ((Bel.refl w3).alloc (Nat.le_refl _) _))
    obtain ⟨w4, hW⟩ : ∃ X, w3.alloc (.cells #[.int .i64 k0, .slice B1 m1 e1, .slice B2' m2 e2] 25) = X := ⟨_, rfl⟩
    rw [hW] at HB4 ⊢
    clear hW
    have B5 := Lib.hid (bthen B2.out HB4.out)
    have HS5 := Lib.hid (Blk.bel HS2.out HB4.out)
    clear s0 s1 s2
    obtain ⟨s0, s1, s2⟩ := Blk.cells3 HS5.out
    by_cases hck : MShape.check s = 0
    · rw [hck] at HR1
      have hX : encB o s = MWkb.enc o s := by unfold encB; rw [if_pos hck]
      rw [hX] at HE1
      have HLEN : Hid ((MWkb.enc o s).length < 100000) := Lib.hid (by rw [← hX]; exact encB_len o s)
      have HBK : Hid (decodeS (MWkb.enc o s ++ l1) = (s, ((MWkb.enc o s).length : Int), 0)) := Lib.hid (MRead.back_decode hck HOK.out o l1)
      have HBY := Lib.hid (bytes_enc o s)
      have HMK : Hid (∃ r, MWkb.enc o s = MWkb.mark o :: r) := Lib.hid (by cases s; unfold MWkb.enc; exact ⟨_, rfl⟩)
      obtain ⟨T, hT⟩ : ∃ T, MWkb.enc o s = T := ⟨_, rfl⟩
      rw [hT] at HE1 HLEN HBK HBY HMK
      clear hX hT hck
      go_upto_region 10 with (first
        | (go_at_call 35; refine (HE1.out _ B6.out).mono ?_; rintro e w7 ⟨v7, rfl, r7, b7⟩; obtain ⟨A, cap, hv7, hcap, hC⟩ := r7.out.reads; subst hv7; have B7 := Lib.hid (bthen B6.out b7.out); have HCT := Lib.hid hC; have HCP := Lib.hid hcap; have HS7 := Lib.hid (Blk.bel HS6.out b7.out); clear hC hcap s0 s1 s2)
        | (go_at_call 42; refine (HR1.out _ B5.out).mono ?_; rintro e w6 ⟨rfl, b6⟩; have B6 := Lib.hid (bthen B5.out b6); have HS6 := Lib.hid (Blk.bel HS5.out b6); clear b6 s0 s1 s2; obtain ⟨s0, s1, s2⟩ := Blk.cells3 HS6.out))
      have HORD : Hid (∀ W', CB W' A T → Calls Tryd.prog 45 #[.slice A T.length cap] W' fun e w' => e = .returned (.tuple #[.bool o, .bool true]) ∧ W' = w') := Lib.hid (fun W' h => by
        obtain ⟨r, hr⟩ := HMK.out
        subst hr
        exact order_calls W' A cap r o h)
      obtain ⟨t, ht⟩ : ∃ t, T.length = t := ⟨_, rfl⟩
      rw [ht] at HLEN HBK HCP HORD ⊢
      have HTT := Lib.hid ht
      clear ht
      go_upto_region 11 with (first
        | (at_builtin; refine appN (w0 := w7) (.tmp 69) (.tmp 70) rfl rfl v8 ([] ++ T) l1 A1 c1 rfl (by rw [HN1.out]; rfl) h8.out (H1.out.below (bthen B7.out hb8.out)) hb8.out (by rw [List.nil_append, HTT.out, HN1.out]; have := HLEN.out; have := G12.out; omega) ?_
           intro v9 w9 h9 hb9
           obtain ⟨A9, c9, hv9, hc9, hC9⟩ := h9.out.reads
           obtain ⟨n9, hn9⟩ : ∃ n, ([] ++ T ++ l1).length = n := ⟨_, rfl⟩
           rw [hn9] at hv9
           subst hv9
           have HDC : Hid (Calls Tryd.prog 43 #[.slice A9 n9 c9] w9 fun ex w' => ∃ k0 B1 m1 e1 B2 m2 e2, ex = .returned (.tuple #[.agg #[.int .i64 k0, .slice B1 m1 e1, .slice B2 m2 e2], .int .i64 t, .int .i64 0]) ∧ Hid (KW.M w' w9.heap.size (fun _ => True) s [.int .i64 k0, .slice B1 m1 e1, .slice B2 m2 e2]) ∧ Hid (Bel w9 w')) := Lib.hid (by
             have := decode_calls w9 A9 c9 ([] ++ T ++ l1) hC9 (by rw [List.nil_append]; exact bytesOk_append HBY.out HBY1.out) hc9 (by rw [List.nil_append, List.length_append, HTT.out, HN1.out]; have := HLEN.out; have := G12.out; omega) (HGL.out.below (bthen B7.out hb9.out) HGL.out.2.2)
             rw [show decodeS ([] ++ T ++ l1) = (s, (t : Int), 0) from by rw [List.nil_append]; exact HBK.out, hn9] at this
             exact this)
           clear hc9 hC9 h9 hn9)
        | (at_builtin; refine appN (w0 := w7) (.tmp 67) (.tmp 68) rfl rfl (.slice (some ⟨w7.heap.size, 0, none⟩) 0 0) [] T A cap rfl (by rw [HTT.out]; rfl) (RB.lit0 (Nat.le_refl _)) (HCT.out.alloc _) ((Below.refl _ w7).alloc (Nat.le_refl _) _) (by rw [HTT.out]; have := HLEN.out; simp; omega) ?_
           intro v8 w8 h8 hb8)
        | (go_at_call 43; refine (HDC.out).mono ?_; rintro e w10 ⟨k9, C1, p1, q1, C2, p2, q2, rfl, hM9, b10⟩))
      have X9 := Blk.new w10 #[.int .i64 k9, .slice C1 p1 q1, .slice C2 p2 q2] 25
      have HB10 : Hid (Bel w10 (w10.alloc (.cells #[.int .i64 k9, .slice C1 p1 q1, .slice C2 p2 q2] 25))) := Lib.hid ((Bel.refl w10).alloc (Nat.le_refl _) _)
      obtain ⟨w11, hW⟩ : ∃ X, w10.alloc (.cells #[.int .i64 k9, .slice C1 p1 q1, .slice C2 p2 q2] 25) = X := ⟨_, rfl⟩
      rw [hW] at X9 HB10 ⊢
      clear hW
      obtain ⟨gz, hgz⟩ : ∃ x, w10.heap.size = x := ⟨_, rfl⟩
      rw [hgz] at X9 ⊢
      clear hgz
      have B711 : Hid (Bel w7 w11) := Lib.hid (bthen (bthen hb9.out b10.out) HB10.out)
      have B11 := Lib.hid (bthen B7.out B711.out)
      have S11 := Blk.bel HS7.out B711.out
      obtain ⟨s0, s1, s2⟩ := Blk.cells3 S11
      obtain ⟨z0, z1, z2⟩ := Blk.cells3 X9
      have HO11 := Lib.hid (HORD.out w11 (HCT.out.below B711.out))
      have HEQ : Hid (Calls Tryd.prog 31 #[.agg #[.int .i64 k9, .slice C1 p1 q1, .slice C2 p2 q2], .agg #[.int .i64 kd, .slice u1 u2 u3, .slice u4 u5 u6]] w11 fun e w' => e = .returned (.bool true) ∧ Bel w11 w') := Lib.hid (by
        obtain ⟨dd, hm⟩ := Kd.M_below (d := KW) hM9.out HB10.out
        have := rEqual_calls dd D s s (.int .i64 k9, .slice C1 p1 q1, .slice C2 p2 q2) (.int .i64 kd, .slice u1 u2 u3, .slice u4 u5 u6) w11 w11.heap.size (Nat.le_refl _) (MW.shB (c := (.int .i64 k9, .slice C1 p1 q1, .slice C2 p2 q2)) hm) ((HS.out.keep (KeepB.bel B11.out)).mono B11.out.size)
        rw [MShape.eqS_refl] at this
        exact this)
      clear S11 X9
      have hoo : (o == o) = true := by simp
      go_wp2_with (first
        | (go_at_call 37; refine (HLV.out _ (bthen B11.out B12.out)).mono ?_; rintro e w13 ⟨rfl, b13⟩; have B13 := Lib.hid b13; clear b13)
        | (go_at_call 31; refine (HEQ.out).mono ?_; rintro e w12 ⟨rfl, b12⟩; have B12 := Lib.hid b12; clear b12)
        | (go_at_call 45; refine (HO11.out).mono ?_; rintro e w9 ⟨rfl, rfl⟩))
      go_ret
      exact ⟨by first | rfl | simp, bthen (bthen B11.out B12.out) B13.out⟩
    · obtain ⟨ck, hck2⟩ : ∃ ck, MShape.check s = ck := ⟨_, rfl⟩
      have hX : encB o s = [] := by unfold encB; rw [if_neg hck]
      rw [hX] at HE1
      rw [hck2] at HR1 hck
      have hckz : (ck == 0) = false := by simpa using hck
      have hckn : (ck != 0) = true := by simpa using hck
      clear hX hck2 hck
      go_wp2_with (first
        | (go_at_call 37; refine (HLV.out _ B7.out).mono ?_; rintro e w8 ⟨rfl, b8⟩; have B8 := Lib.hid b8; clear b8)
        | (go_at_call 35; refine (HE1.out _ B6.out).mono ?_; rintro e w7 ⟨v7, rfl, r7, b7⟩; obtain ⟨A, cap, hv7, hcap, hC⟩ := r7.out.reads; subst hv7; have B7 := Lib.hid (bthen B6.out b7.out))
        | (go_at_call 42; refine (HR1.out _ B5.out).mono ?_; rintro e w6 ⟨rfl, b6⟩; have B6 := Lib.hid (bthen B5.out b6); have HS6 := Lib.hid (Blk.bel HS5.out b6); clear b6 s0 s1 s2; obtain ⟨s0, s1, s2⟩ := Blk.cells3 HS6.out))
      go_ret
      exact ⟨by first | rfl | simp, bthen B7.out B8.out⟩
-- BASE15
theorem WkbBack_calls {w : World} (cs : Array Value) (s : Sh) (hK : KSh.K w s cs.toList) (hq : shOk s) (o : Bool) (cs2 : Array Value) (x : List Int × List Int) (hK2 : (Kd.pair (Kd.slice 5 (Kd.int .u8)) (Kd.slice 5 (Kd.int .u8))).K w x cs2.toList)
    (hq1 : ∀ y ∈ x.1, (Lit.int .u8 y).wf = true) (hq2 : ∀ y ∈ x.2, (Lit.int .u8 y).wf = true) (hw2 : 2 ≤ w.heap.size) (hF : FormsAt w) (hN : NowAt w) :
    Calls Tryd.prog 11 #[.agg cs, .bool o, .agg cs2] w fun e w' => e = .returned (.bool true) ∧ Below w.heap.size w w' := by
  obtain ⟨d, c, hc, hs⟩ := hK
  obtain ⟨l⟩ := cs
  simp at hc
  subst hc
  obtain ⟨k1, k2, he, ⟨A1, c1, rfl, hl1, hC1⟩, ⟨A2, c2, rfl, hl2, hC2⟩⟩ := hK2
  obtain ⟨l2⟩ := cs2
  simp at he
  subst he
  exact back_calls d s c o A1 A2 c1 c2 x.1 x.2 w hw2 hs hq hF hN hC1 hl1 (bytesOk_wf hq1) hC2 hl2 (bytesOk_wf hq2)

end Go.Proofs.YtfknhpgelleenaaDoor.K
