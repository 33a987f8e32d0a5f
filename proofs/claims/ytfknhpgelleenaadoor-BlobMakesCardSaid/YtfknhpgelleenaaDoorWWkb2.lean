/- The reference's Encode; the document's example of layer 14. -/
import Derived.Test.YtfknhpgelleenaaDoorKB
import Derived.Handy
import Derived.Test.YtfknhpgelleenaaDoorWShp
import Derived.Test.YtfknhpgelleenaaDoorWWkb1
import Derived.Test.YtfknhpgelleenaaDoorWRCheck
import Derived.Test.YtfknhpgelleenaaDoorWRPut2
namespace Go.Proofs.YtfknhpgelleenaaDoor.K
open Go Go.RowKit Go.Proofs.YtfknhpgelleenaaDoorW.PrintWords Go.Proofs.YtfknhpgelleenaaDoorW.PrintLast Go.Proofs.YtfknhpgelleenaaDoorW.PrintMore
set_option linter.unusedVariables false
set_option linter.unusedSimpArgs false
open Go.Proofs.YtfknhpgelleenaaDoor.MShape (Sh flats)
set_option maxHeartbeats 2000000 in
set_option maxRecDepth 100000 in
theorem rencode_calls (D : Nat) (s : Sh) (c : Value × Value × Value) (o : Bool) (w : World) (B : Nat) (hB : B ≤ w.heap.size) (hs : ShB B w D c s) :
    Calls Tryd.prog 38 #[.agg #[c.1, c.2.1, c.2.2], .bool o] w fun e w' => ∃ v, e = .returned v ∧ Hid (RB w w' v (encB o s)) ∧ Hid (Bel w w') := by
  have HCK := Lib.hid (fun W h1 h2 => rcheck_calls D s c W B h1 h2)
  have HPU := Lib.hid (fun W h1 h2 h3 => rput_calls D s c o W B h1 h2 h3)
  have HS := Lib.hid hs
  obtain ⟨kd, e1, e2, e3, e4, e5, e6, rfl⟩ := hs.forms
  dsimp only at HCK HPU HS ⊢
  have HBB := Lib.hid hB
  clear hs hB
  have S := Blk.new w #[.int .i64 kd, .slice e1 e2 e3, .slice e4 e5 e6] 25
  have HB : Hid (Bel w (w.alloc (.cells #[.int .i64 kd, .slice e1 e2 e3, .slice e4 e5 e6] 25))) := Lib.hid ((Bel.refl w).alloc (Nat.le_refl _) _)
  go_enter Tryd.func38, Tryd.ntmps38
  go_upto_region 1 with (fail)
  obtain ⟨W1, hW⟩ : ∃ X, w.alloc (.cells #[.int .i64 kd, .slice e1 e2 e3, .slice e4 e5 e6] 25) = X := ⟨_, rfl⟩
  rw [hW] at S HB ⊢
  obtain ⟨gs, hg⟩ : ∃ X, w.heap.size = X := ⟨_, rfl⟩
  rw [hg] at S ⊢
  clear hW hg
  obtain ⟨s0, s1, s2⟩ := Blk.cells3 S
  have HSB := Lib.hid S
  clear S
  have HC1 := Lib.hid (HCK.out W1 (by have := HB.out.size; have := HBB.out; omega) (HS.out.keep (KeepB.bel HB.out)))
  obtain ⟨ck, hck⟩ : ∃ k, MShape.check s = k := ⟨_, rfl⟩
  have HCE := Lib.hid hck
  rw [hck] at HC1
  clear hck HCK
  by_cases hz : ck = 0
  · subst hz
    go_upto_region 3 with (go_at_call 42; refine (HC1.out).mono ?_; rintro e W2 ⟨rfl, hb2⟩)
    have HB2 := Lib.hid (bthen HB.out hb2)
    have S2 := Blk.bel HSB.out hb2
    clear s0 s1 s2 hb2 HC1
    obtain ⟨s0, s1, s2⟩ := Blk.cells3 S2
    have HC2 := Lib.hid (HPU.out W2 (by have := HB2.out.size; have := HBB.out; omega) (HS.out.keep (KeepB.bel HB2.out)) (by
      have h1 := MShape.light_is (check_light HCE.out)
      have h2 := MWkb.enc_len o s
      omega))
    clear S2
    go_wp2_with (go_at_call 62; refine (HC2.out).mono ?_; rintro e W3 ⟨v3, rfl, hr3, hb3⟩)
    go_ret
    exact ⟨_, rfl, by unfold encB; rw [if_pos HCE.out]; exact hr3.out.lower HB2.out.size, bthen HB2.out hb3.out⟩
  · have hz1 : (ck == 0) = false := by simpa using hz
    go_wp2_with (go_at_call 42; refine (HC1.out).mono ?_; rintro e W2 ⟨rfl, hb2⟩)
    go_ret
    exact ⟨_, rfl, by unfold encB; rw [if_neg (by rw [HCE.out]; exact hz)]; exact RB.nil _ _, bthen HB.out hb2⟩
theorem liveE : encB false (.mk 1 [(1, 2)] []) = [0, 0, 0, 0, 1, 0, 0, 0, 0, 0, 0, 0, 1, 0, 0, 0, 0, 0, 0, 0, 2] := by decide +kernel
theorem liveS : strOfNums [0, 0, 0, 0, 1, 0, 0, 0, 0, 0, 0, 0, 1, 0, 0, 0, 0, 0, 0, 0, 2] = ⟨#[0, 0, 0, 0, 1, 0, 0, 0, 0, 0, 0, 0, 1, 0, 0, 0, 0, 0, 0, 0, 2]⟩ := by first | rfl | decide +kernel
set_option maxHeartbeats 1000000 in
set_option maxRecDepth 100000 in
theorem lives14 (w : World) (hw2 : 2 ≤ w.heap.size) (hF : FormsAt w) (hN : NowAt w) : Calls Tryd.prog 37 #[] w fun e w' => e = .returned (.bool true) ∧ Bel w w' := by
  have P := Blk.new w #[.int .i64 1, .int .i64 2] 41
  have HB : Hid (Bel w (w.alloc (.cells #[.int .i64 1, .int .i64 2] 41))) := Lib.hid ((Bel.refl w).alloc (Nat.le_refl _) _)
  have hsh : ShB (w.alloc (.cells #[.int .i64 1, .int .i64 2] 41)).heap.size (w.alloc (.cells #[.int .i64 1, .int .i64 2] 41)) 1 (.int .i64 1, .slice (some ⟨w.heap.size, 0, none⟩) 1 1, .slice none 0 0) (.mk 1 [(1, 2)] []) :=
    ⟨rfl, ⟨some ⟨w.heap.size, 0, none⟩, 1, rfl, by simp, by simp, fun i hi => ⟨w.heap.size, 0, rfl, Blk.lt P, match i, hi with
      | 0, _ => ⟨Blk.cell P 0 rfl, Blk.cell P 1 rfl⟩⟩⟩, [], rfl, ⟨none, 0, rfl, by simp, by simp, fun i hi => absurd hi (Nat.not_lt_zero _)⟩, fun i x p hx => by simp at hx⟩
  have HC := Lib.hid (encode_calls 1 (.mk 1 [(1, 2)] []) (.int .i64 1, .slice (some ⟨w.heap.size, 0, none⟩) 1 1, .slice none 0 0) false _ _ (Nat.le_refl _) (by have := HB.out.size; omega) hsh (hF.bel HB.out) (hN.below hw2 HB.out))
  rw [liveE] at HC
  clear hsh hF hN hw2 P
  go_enter Tryd.func37, Tryd.ntmps37
  go_upto_region 2 with (go_at_call 35; refine (HC.out).mono ?_; rintro e W2 ⟨v2, rfl, hr2, hb2⟩)
  have q2 := hr2.out.str
  have HB2 := Lib.hid (bthen HB.out hb2.out)
  clear hr2 hb2 HC
  rw [liveS] at q2
  go_wp2
  go_ret
  exact ⟨by first | rfl | simp, HB2.out⟩

end Go.Proofs.YtfknhpgelleenaaDoor.K
