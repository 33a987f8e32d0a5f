/- WkbCuts walked. -/
import Derived.Test.YtfknhpgelleenaaDoorKB
import Derived.Handy
import Derived.Test.YtfknhpgelleenaaDoorRD3
import Derived.Test.YtfknhpgelleenaaDoorWEncB
import Derived.Test.YtfknhpgelleenaaDoorKRC
import Derived.Test.YtfknhpgelleenaaDoorKWW
import Derived.IntWalk
namespace Go.Proofs.YtfknhpgelleenaaDoor.K
open Go Go.RowKit Go.Proofs.YtfknhpgelleenaaDoorW.PrintWords Go.Proofs.YtfknhpgelleenaaDoorW.PrintLast Go.Proofs.YtfknhpgelleenaaDoorW.PrintMore
set_option linter.unusedVariables false
set_option linter.unusedSimpArgs false
open Go.Proofs.YtfknhpgelleenaaDoor.MShape (Sh flats)
open Go.Proofs.YtfknhpgelleenaaDoor.MRead (decodeS readS inS inI)
set_option maxHeartbeats 4000000 in
set_option maxRecDepth 100000 in
theorem cuts_calls (D : Nat) (s : Sh) (c : Value × Value × Value) (o : Bool) (n : Int) (w : World) (hn : 0 ≤ n ∧ n < 18446744073709551616) (hw2 : 2 ≤ w.heap.size) (hs : ShB w.heap.size w D c s) (hok : shOk s) (hF : FormsAt w) (hN : NowAt w) :
    Calls Tryd.prog 9 #[.agg #[c.1, c.2.1, c.2.2], .bool o, .int .u64 n] w fun e w' => e = .returned (.bool true) ∧ Bel w w' := by
  have HE := Lib.hid (fun W h1 h2 h3 h4 h5 => encode_calls D s c o W w.heap.size h1 h2 h3 h4 h5)
  have HR := Lib.hid (fun W h1 h2 => rcheck_calls D s c W w.heap.size h1 h2)
  have HS := Lib.hid hs
  have HOK := Lib.hid (flat_in hok)
  obtain ⟨kd, u1, u2, u3, u4, u5, u6, rfl⟩ := hs.forms
  dsimp only at HE HR HS ⊢
  have HGL : Hid (Gl w) := Lib.hid ⟨hF, hN, hw2⟩
  have S := Blk.new w #[.int .i64 kd, .slice u1 u2 u3, .slice u4 u5 u6] 25
  have HB : Hid (Bel w (w.alloc (.cells #[.int .i64 kd, .slice u1 u2 u3, .slice u4 u5 u6] 25))) := Lib.hid ((Bel.refl w).alloc (Nat.le_refl _) _)
  have HNN := Lib.hid hn
  clear hs hF hN hw2 hok hn
  go_enter Tryd.func9, Tryd.ntmps9
  go_upto_region 1 with (fail)
  obtain ⟨W1, hW⟩ : ∃ X, w.alloc (.cells #[.int .i64 kd, .slice u1 u2 u3, .slice u4 u5 u6] 25) = X := ⟨_, rfl⟩
  rw [hW] at S HB ⊢
  obtain ⟨gs, hg⟩ : ∃ X, w.heap.size = X := ⟨_, rfl⟩
  rw [hg] at S ⊢
  have HGS := Lib.hid hg
  clear hW hg
  have HLV : Hid (∀ W', Bel w W' → Calls Tryd.prog 37 #[] W' fun e w'' => e = .returned (.bool true) ∧ Bel W' w'') := Lib.hid (fun W' h => lives14 W' (Nat.le_trans HGL.out.2.2 h.size) (HGL.out.1.bel h) (HGL.out.2.1.below HGL.out.2.2 h))
  have HE1 := Lib.hid (HE.out W1 HB.out.size (Nat.le_trans HGL.out.2.2 HB.out.size) (HS.out.keep (KeepB.bel HB.out)) (HGL.out.1.bel HB.out) (HGL.out.2.1.below HGL.out.2.2 HB.out))
  have HR1 : Hid (∀ W', Bel w W' → Calls Tryd.prog 42 #[.agg #[.int .i64 kd, .slice u1 u2 u3, .slice u4 u5 u6]] W' fun e w' => e = .returned (.int .i64 (MShape.check s)) ∧ Bel W' w') := Lib.hid (fun W' h => HR.out W' h.size (HS.out.keep (KeepB.bel h)))
  obtain ⟨s0, s1, s2⟩ := Blk.cells3 S
  have HSB := Lib.hid S
  clear S HE HR
  by_cases hck : MShape.check s = 0
  · have hX : encB o s = MWkb.enc o s := by unfold encB; rw [if_pos hck]
    rw [hX] at HE1
    have HLEN : Hid (9 ≤ (MWkb.enc o s).length ∧ (MWkb.enc o s).length < 100000) := Lib.hid ⟨MRead.enc_len9 o s, by rw [← hX]; exact encB_len o s⟩
    have HC1 : Hid (∀ m, m < (MWkb.enc o s).length → (decodeS ((MWkb.enc o s).take m)).2.2 = 8) := Lib.hid (fun m hm => MRead.cut_decode hck HOK.out o hm)
    have HC2 : Hid (∀ x, (readS (MWkb.enc o s ++ [x])).2 = 9) := Lib.hid (fun x => MRead.more_read hck HOK.out o x)
    have HBY := Lib.hid (bytes_enc o s)
    obtain ⟨T, hT⟩ : ∃ T, MWkb.enc o s = T := ⟨_, rfl⟩
    rw [hT] at HE1 HLEN HC1 HC2 HBY
    clear hX hT hck HR1
    go_upto_region 2 with (go_at_call 35; refine (HE1.out).mono ?_; rintro e w2 ⟨v2, rfl, hr2, hb2⟩; obtain ⟨A, cap, hv2, hcap, hC⟩ := hr2.out.reads; subst hv2)
    have B2 := Lib.hid (bthen HB.out hb2.out)
    have HC := Lib.hid hC
    clear s0 s1 s2 hr2 hb2 hC
    obtain ⟨t, ht⟩ : ∃ t, T.length = t := ⟨_, rfl⟩
    rw [ht] at HLEN HC1 hcap ⊢
    have HT := Lib.hid ht
    clear ht
    have htz : ((t : Int) == 0) = false := by have := HLEN.out.1; simp; omega
    have hwt : IntKind.u64.wrap (t : Int) = t := by rw [IntKind.wrap_u64]; have := HLEN.out.2; omega
    obtain ⟨m, hm⟩ : ∃ m : Nat, (m : Int) = n % t := ⟨(n % t).toNat, by have := Int.emod_nonneg n (show (t : Int) ≠ 0 by have := HLEN.out.1; omega); omega⟩
    have HM : Hid (m < t) := Lib.hid (by have := Int.emod_lt_of_pos n (show (0 : Int) < t by have := HLEN.out.1; omega); omega)
    have hmod : n.tmod t = m := by rw [hm]; exact Int.tmod_eq_emod_of_nonneg HNN.out.1
    have hwm : IntKind.u64.wrap (m : Int) = m := by rw [IntKind.wrap_u64]; have := HM.out; have := HLEN.out.2; omega
    have hwm2 : IntKind.i64.wrap (m : Int) = m := IntWalk.i64_in _ (by have := HM.out; have := HLEN.out.2; omega)
    have htnz : ¬ (t : Int) = 0 := by have := HLEN.out.1; omega
    have htnz2 : ¬ t = 0 := by have := HLEN.out.1; omega
    have hmc : m ≤ cap := by have := HM.out; omega
    clear hm
    have HDEC : Hid (∃ nn, Calls Tryd.prog 43 #[.slice A m cap] w2 fun ex w' => ∃ k0 B1 m1 e1 B2 m2 e2, ex = .returned (.tuple #[.agg #[.int .i64 k0, .slice B1 m1 e1, .slice B2 m2 e2], .int .i64 nn, .int .i64 8]) ∧ Hid (Bel w2 w')) := Lib.hid ⟨(decodeS (T.take m)).2.1, by
      have hl : (T.take m).length = m := by rw [List.length_take, HT.out]; have := HM.out; omega
      have := decode_calls w2 A cap (T.take m) (HC.out.take m (by rw [HT.out]; have := HM.out; omega)) (fun x hx => HBY.out x (List.mem_of_mem_take hx)) (by rw [hl]; exact hmc) (by rw [hl]; have := HM.out; have := HLEN.out.2; omega) (HGL.out.below B2.out HGL.out.2.2)
      rw [hl, HC1.out m HM.out] at this
      refine this.mono ?_
      rintro ex w' ⟨k0, B1, m1, e1, B2, m2, e2, h1, h2, h3⟩
      exact ⟨k0, B1, m1, e1, B2, m2, e2, h1, h3⟩⟩
    obtain ⟨nn, hdec⟩ := HDEC.out
    have HDC := Lib.hid hdec
    clear HDEC hdec
    go_upto_region 5 with (go_at_call 43; refine (HDC.out).mono ?_; rintro e w3 ⟨k0, B1, m1, e1, B2', m2, e2, rfl, b3⟩)
    have B4 : Hid (Bel w2 (w3.alloc (.cells #[.int .i64 k0, .slice B1 m1 e1, .slice B2' m2 e2] 25))) := Lib.hid (bthen b3.out ((Bel.refl w3).alloc (Nat.le_refl _) _))
    obtain ⟨w5, hW⟩ : ∃ X, w3.alloc (.cells #[.int .i64 k0, .slice B1 m1 e1, .slice B2' m2 e2] 25) = X := ⟨_, rfl⟩
    rw [hW] at B4 ⊢
    clear hW
    have B5 := Lib.hid (bthen B2.out B4.out)
    have HC5 := Lib.hid (HC.out.below B4.out)
    obtain ⟨x, hx8⟩ : ∃ x, IntKind.u8.wrap n = x := ⟨_, rfl⟩
    have HX : Hid (0 ≤ x ∧ x < 256) := Lib.hid (by rw [IntKind.wrap_u8] at hx8; omega)
    clear hmc htz hwt hmod hwm hwm2 htnz htnz2
    go_upto_region 6 with (first
      | (at_builtin; refine app1 (w0 := w) (.tmp 41) (.tmp 44) rfl rfl v6 ([] ++ T) x rfl rfl h6.out hb6.out (by rw [List.nil_append, HT.out]; have := HLEN.out.2; omega) ?_
         intro v7 w7 h7 hb7
         obtain ⟨A7, c7, hv7, hc7, hC7⟩ := h7.out.reads
         obtain ⟨n7, hn7⟩ : ∃ n, ([] ++ T ++ [x]).length = n := ⟨_, rfl⟩
         rw [hn7] at hv7
         subst hv7
         have HRD : Hid (Calls Tryd.prog 44 #[.slice A7 n7 c7] w7 fun ex w' => ∃ k0 B1 m1 e1 B2 m2 e2, ex = .returned (.tuple #[.agg #[.int .i64 k0, .slice B1 m1 e1, .slice B2 m2 e2], .int .i64 9]) ∧ Hid (Bel w7 w')) := Lib.hid (by
           have := read_calls w7 A7 c7 ([] ++ T ++ [x]) hC7 (by rw [List.nil_append]; exact bytesOk_append HBY.out (fun y hy => by rw [List.mem_singleton] at hy; rw [hy]; exact HX.out)) hc7 (by rw [List.nil_append, List.length_append, HT.out]; have := HLEN.out.2; simp; omega) (HGL.out.below hb7.out HGL.out.2.2)
           rw [show (readS ([] ++ T ++ [x])).2 = 9 from by rw [List.nil_append]; exact HC2.out x, hn7] at this
           refine this.mono ?_
           rintro ex w' ⟨k0, B1, m1, e1, B2, m2, e2, h1, h2, h3⟩
           exact ⟨k0, B1, m1, e1, B2, m2, e2, h1, h3⟩)
         clear hc7 hC7 h7 hn7)
      | (at_builtin; refine appN (w0 := w) (.tmp 39) (.tmp 40) rfl rfl (.slice (some ⟨w5.heap.size, 0, none⟩) 0 0) [] T A cap rfl (by rw [HT.out]; rfl) (RB.lit0 B5.out.size) (HC5.out.alloc _) (B5.out.alloc B5.out.size _) (by rw [HT.out]; have := HLEN.out.2; simp; omega) ?_
         intro v6 w6 h6 hb6)
      | (go_at_call 44; refine (HRD.out).mono ?_; rintro e w8 ⟨k9, B9, m9, e9, B8', m8, e8, rfl, b8⟩; have BF : Hid (Bel w (w8.alloc (.cells #[.int .i64 k9, .slice B9 m9 e9, .slice B8' m8 e8] 25))) := Lib.hid (bthen (bthen hb7.out b8.out) ((Bel.refl _).alloc (Nat.le_refl _) _))))
    go_wp2_with (go_at_call 37; refine (HLV.out _ BF.out).mono ?_; rintro e w9 ⟨rfl, b9⟩; have B9 := Lib.hid b9; clear b9)
    go_ret
    exact ⟨rfl, bthen BF.out B9.out⟩
  · have hX : encB o s = [] := by unfold encB; rw [if_neg hck]
    rw [hX] at HE1
    obtain ⟨ck, hck2⟩ : ∃ ck, MShape.check s = ck := ⟨_, rfl⟩
    rw [hck2] at HR1 hck
    have hckz : (ck == 0) = false := by simpa using hck
    have hckn : (ck != 0) = true := by simpa using hck
    clear hX hck2 hck
    go_wp2_with (first
      | (go_at_call 37; refine (HLV.out _ (bthen B2.out B3.out)).mono ?_; rintro e w5 ⟨rfl, hb5⟩; have B5 := Lib.hid hb5; clear hb5)
      | (go_at_call 42; refine (HR1.out _ B2.out).mono ?_; rintro e w4 ⟨rfl, hb4⟩; have B3 := Lib.hid hb4; clear hb4)
      | (go_at_call 35; refine (HE1.out).mono ?_; rintro e w2 ⟨v2, rfl, hr2, hb2⟩; obtain ⟨A, cap, hv2, hcap, hC⟩ := hr2.out.reads; subst hv2; have B2 := Lib.hid (bthen HB.out hb2.out); clear s0 s1 s2; obtain ⟨s0, s1, s2⟩ := Blk.cells3 (Blk.bel HSB.out hb2.out)))
    go_ret
    exact ⟨by first | rfl | simp, bthen (bthen B2.out B3.out) B5.out⟩
theorem WkbCuts_calls {w : World} (cs : Array Value) (s : Sh) (hK : KSh.K w s cs.toList) (hq : shOk s) (o : Bool) (n : Int) (hn : (Lit.int .u64 n).wf = true) (hw2 : 2 ≤ w.heap.size) (hF : FormsAt w) (hN : NowAt w) :
    Calls Tryd.prog 9 #[.agg cs, .bool o, .int .u64 n] w fun e w' => e = .returned (.bool true) ∧ Below w.heap.size w w' := by
  obtain ⟨d, c, hc, hs⟩ := hK
  obtain ⟨l⟩ := cs
  simp at hc
  subst hc
  have hn2 : 0 ≤ n ∧ n < 18446744073709551616 := by
    simp only [Lit.wf, IntKind.min, IntKind.max, IntKind.signed, IntKind.bits, Bool.and_eq_true, decide_eq_true_eq, if_true] at hn
    simp at hn
    omega
  exact cuts_calls d s c o n w hn2 hw2 hs hq hF hN

end Go.Proofs.YtfknhpgelleenaaDoor.K
