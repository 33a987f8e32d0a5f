/- wkb.Encode, wkb.Size. -/
import Derived.Test.YtfknhpgelleenaaDoorKB
import Derived.Handy
import Derived.Test.YtfknhpgelleenaaDoorWShp
import Derived.Test.YtfknhpgelleenaaDoorWCheck
import Derived.Test.YtfknhpgelleenaaDoorWWr3
namespace Go.Proofs.YtfknhpgelleenaaDoor.K
open Go Go.RowKit Go.Proofs.YtfknhpgelleenaaDoorW.PrintWords Go.Proofs.YtfknhpgelleenaaDoorW.PrintLast Go.Proofs.YtfknhpgelleenaaDoorW.PrintMore
set_option linter.unusedVariables false
set_option linter.unusedSimpArgs false
open Go.Proofs.YtfknhpgelleenaaDoor.MShape (Sh flats)
theorem check_light {s : Sh} (h : MShape.check s = 0) : MShape.light s = true := by
  unfold MShape.check at h
  by_cases h1 : 16 < (MShape.count s).depth
  · rw [if_pos h1] at h; cases h
  rw [if_neg h1] at h
  by_cases h2 : 4000 < (MShape.count s).points ∨ 1000 < (MShape.count s).parts
  · rw [if_pos h2] at h; cases h
  unfold MShape.light
  simp only [Bool.and_eq_true, decide_eq_true_eq]
  omega
/-- What Encode puts. -/
def encB (o : Bool) (s : Sh) : List Int := if MShape.check s = 0 then MWkb.enc o s else []
theorem encB_len (o : Bool) (s : Sh) : (encB o s).length < 100000 := by
  unfold encB
  split
  · rename_i h
    have h1 := MShape.light_is (check_light h)
    have h2 := MWkb.enc_len o s
    omega
  · simp
set_option maxHeartbeats 2000000 in
set_option maxRecDepth 100000 in
theorem encode_calls (D : Nat) (s : Sh) (c : Value × Value × Value) (o : Bool) (w : World) (B : Nat) (hB : B ≤ w.heap.size) (hw2 : 2 ≤ w.heap.size) (hs : ShB B w D c s) (hF : FormsAt w) (hN : NowAt w) :
    Calls Tryd.prog 35 #[.agg #[c.1, c.2.1, c.2.2], .bool o] w fun e w' => ∃ v, e = .returned v ∧ Hid (RB w w' v (encB o s)) ∧ Hid (Bel w w') := by
  have HCK := Lib.hid (fun W h1 h2 h3 h4 => check_calls D s c W B h1 h2 h3 h4)
  have HWS := Lib.hid (fun w0 g l W h1 h2 h3 h4 h5 => wshape_calls D s c w0 g o l W h1 h2 h3 h4 h5)
  have HS := Lib.hid hs
  obtain ⟨kd, e1, e2, e3, e4, e5, e6, rfl⟩ := hs.forms
  dsimp only at HCK HWS HS ⊢
  have HF := Lib.hid hF
  have HN := Lib.hid hN
  have HW2 := Lib.hid hw2
  have HBB := Lib.hid hB
  clear hs hF hN hw2 hB
  have S := Blk.new w #[.int .i64 kd, .slice e1 e2 e3, .slice e4 e5 e6] 25
  have HB : Hid (Bel w (w.alloc (.cells #[.int .i64 kd, .slice e1 e2 e3, .slice e4 e5 e6] 25))) := Lib.hid ((Bel.refl w).alloc (Nat.le_refl _) _)
  go_enter Tryd.func35, Tryd.ntmps35
  go_upto_region 1 with (fail)
  obtain ⟨W1, hW⟩ : ∃ X, w.alloc (.cells #[.int .i64 kd, .slice e1 e2 e3, .slice e4 e5 e6] 25) = X := ⟨_, rfl⟩
  rw [hW] at S HB ⊢
  obtain ⟨gs, hg⟩ : ∃ X, w.heap.size = X := ⟨_, rfl⟩
  have HGS := Lib.hid hg
  rw [hg] at S ⊢
  clear hW hg
  obtain ⟨s0, s1, s2⟩ := Blk.cells3 S
  have HSB := Lib.hid S
  clear S
  have HC1 := Lib.hid (HCK.out W1 (by have := HB.out.size; have := HBB.out; omega) (by have := HB.out.size; have := HW2.out; omega) (HS.out.keep (KeepB.bel HB.out)) (HF.out.bel HB.out))
  obtain ⟨ck, hck⟩ : ∃ k, MShape.check s = k := ⟨_, rfl⟩
  have HCE := Lib.hid hck
  rw [hck] at HC1
  clear hck HCK
  by_cases hz : ck = 0
  · subst hz
    go_upto_region 3 with (go_at_call 21; refine (HC1.out).mono ?_; rintro e W2 ⟨rfl, hb2⟩)
    have HB2 := Lib.hid (bthen HB.out hb2)
    have HSB2 := Lib.hid (Blk.bel HSB.out hb2)
    clear s0 s1 s2 hb2 HC1
    go_upto_region 4 with (fail)
    have G := Blk.new W2 #[.slice none 0 0, .bool o] 92
    have HB3 := Lib.hid (HB2.out.alloc HB2.out.size (.cells #[.slice none 0 0, .bool o] 92))
    have S3 := Blk.alloc HSB2.out (.cells #[.slice none 0 0, .bool o] 92)
    have HG2 := Lib.hid (show w.heap.size ≤ W2.heap.size from HB2.out.size)
    have HB23 : Hid (Bel W2 (W2.alloc (.cells #[.slice none 0 0, .bool o] 92))) := Lib.hid ((Bel.refl W2).alloc (Nat.le_refl _) _)
    have HST : Hid (St W2 W2.heap.size o [] (W2.alloc (.cells #[.slice none 0 0, .bool o] 92))) := Lib.hid ⟨_, G, RB.nil _ _, HB23.out, Nat.le_refl _⟩
    obtain ⟨W3, hW⟩ : ∃ X, W2.alloc (.cells #[.slice none 0 0, .bool o] 92) = X := ⟨_, rfl⟩
    rw [hW] at G HB3 S3 HB23 HST ⊢
    obtain ⟨g, hg⟩ : ∃ X, W2.heap.size = X := ⟨_, rfl⟩
    have HGE := Lib.hid hg
    rw [hg] at G HST ⊢
    clear hW hg
    obtain ⟨s0, s1, s2⟩ := Blk.cells3 S3
    have HCW := Lib.hid (HWS.out W2 g [] W3 (by have := HG2.out; have := HW2.out; omega) (HN.out.below HW2.out HB2.out) ((HS.out.keep (KeepB.bel HB3.out)).mono (by have := HG2.out; have := HBB.out; omega)) HST.out (by
      have h1 := MShape.light_is (check_light HCE.out)
      have h2 := MWkb.enc_len o s
      simp only [List.length_nil]
      omega))
    clear G S3
    go_upto_region 5 with (go_at_call 61; refine (HCW.out).mono ?_; rintro e W4 ⟨rfl, h4⟩)
    obtain ⟨⟨v, hG4, hR4, hB4, _⟩, hK4⟩ := h4.out
    have g0 : W4.cell? ⟨g, 0, none⟩ = some v := Blk.cell hG4 0 rfl
    obtain ⟨A9, n9, c9, hv⟩ := RB.sl hR4
    subst hv
    have HR4 := Lib.hid hR4
    have HB4 := Lib.hid hB4
    clear hG4 hR4 hB4 hK4
    go_wp2
    go_ret
    exact ⟨_, rfl, by unfold encB; rw [if_pos HCE.out]; exact HR4.out.lower HG2.out, bthen HB2.out HB4.out⟩
  · have hz1 : (ck == 0) = false := by simpa using hz
    go_upto_region 3 with (go_at_call 21; refine (HC1.out).mono ?_; rintro e W2 ⟨rfl, hb2⟩)
    · go_ret
      exact ⟨_, rfl, by unfold encB; rw [if_neg (by rw [HCE.out]; exact hz)]; exact RB.nil _ _, bthen HB.out hb2⟩
theorem size_calls (D : Nat) (s : Sh) (c : Value × Value × Value) (w : World) (B : Nat) (hB : B ≤ w.heap.size) (hw2 : 2 ≤ w.heap.size) (hs : ShB B w D c s) (hF : FormsAt w) (hN : NowAt w) :
    Calls Tryd.prog 36 #[.agg #[c.1, c.2.1, c.2.2]] w fun e w' => e = .returned (.int .i64 (encB false s).length) ∧ Bel w w' := by
  have HEN := Lib.hid (fun W h1 h2 h3 h4 h5 => encode_calls D s c false W B h1 h2 h3 h4 h5)
  have HS := Lib.hid hs
  obtain ⟨kd, e1, e2, e3, e4, e5, e6, rfl⟩ := hs.forms
  dsimp only at HEN HS ⊢
  have HF := Lib.hid hF
  have HN := Lib.hid hN
  have HW2 := Lib.hid hw2
  have HBB := Lib.hid hB
  clear hs hF hN hw2 hB
  have S := Blk.new w #[.int .i64 kd, .slice e1 e2 e3, .slice e4 e5 e6] 25
  have HB : Hid (Bel w (w.alloc (.cells #[.int .i64 kd, .slice e1 e2 e3, .slice e4 e5 e6] 25))) := Lib.hid ((Bel.refl w).alloc (Nat.le_refl _) _)
  go_enter Tryd.func36, Tryd.ntmps36
  go_upto_region 1 with (fail)
  obtain ⟨W1, hW⟩ : ∃ X, w.alloc (.cells #[.int .i64 kd, .slice e1 e2 e3, .slice e4 e5 e6] 25) = X := ⟨_, rfl⟩
  rw [hW] at S HB ⊢
  obtain ⟨gs, hg⟩ : ∃ X, w.heap.size = X := ⟨_, rfl⟩
  rw [hg] at S ⊢
  clear hW hg
  obtain ⟨s0, s1, s2⟩ := Blk.cells3 S
  have HC1 := Lib.hid (HEN.out W1 (by have := HB.out.size; have := HBB.out; omega) (by have := HB.out.size; have := HW2.out; omega) (HS.out.keep (KeepB.bel HB.out)) (HF.out.bel HB.out) (HN.out.below HW2.out HB.out))
  clear S
  go_wp2_with (go_at_call 35; refine (HC1.out).mono ?_; rintro e W2 ⟨v2, rfl, hr2, hb2⟩; obtain ⟨A2, c2, hv2, -, -⟩ := hr2.out.reads; subst hv2)
  go_ret
  exact ⟨by first | rfl | simp, bthen HB.out hb2.out⟩

end Go.Proofs.YtfknhpgelleenaaDoor.K
