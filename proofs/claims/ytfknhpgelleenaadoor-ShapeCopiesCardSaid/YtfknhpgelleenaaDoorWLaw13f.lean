/- ShapeCopies walked. -/
import Derived.Test.YtfknhpgelleenaaDoorKB
import Derived.Handy
import Derived.Test.YtfknhpgelleenaaDoorKM
import Derived.Test.YtfknhpgelleenaaDoorWShp
import Derived.Test.YtfknhpgelleenaaDoorWSame
import Derived.Test.YtfknhpgelleenaaDoorWEqual
import Derived.Test.YtfknhpgelleenaaDoorWREqual
import Derived.Test.YtfknhpgelleenaaDoorWLight
import Derived.Test.YtfknhpgelleenaaDoorWPts
import Derived.Test.YtfknhpgelleenaaDoorWRight
import Derived.Test.YtfknhpgelleenaaDoorWLive13
import Derived.Test.YtfknhpgelleenaaDoorWCheck
import Derived.Test.YtfknhpgelleenaaDoorWCopy
namespace Go.Proofs.YtfknhpgelleenaaDoor.K
open Go Go.RowKit Go.Proofs.YtfknhpgelleenaaDoorW.PrintWords Go.Proofs.YtfknhpgelleenaaDoorW.PrintLast Go.Proofs.YtfknhpgelleenaaDoorW.PrintMore
set_option linter.unusedVariables false
set_option linter.unusedSimpArgs false
open Go.Proofs.YtfknhpgelleenaaDoor.MShape (Sh flats light eqPts eqS)
theorem Turned.keepB {base : Nat} {ok : Nat → Prop} {W W' : World} (h : Turned base ok W W') (hb : base ≤ W.heap.size) : KeepB base W W' := fun j hj cs t r hc => (h.1.block j hj).trans hc
theorem Turned.blk {base : Nat} {ok : Nat → Prop} {W W' : World} (h : Turned base ok W W') {g t : Nat} {cs : Array Value} (hb : Blk W g cs t) (hn : ¬ ok g) : Blk W' g cs t := (h.2 g (Blk.lt hb) (fun e => hn e.1)).trans hb
theorem RPt.turned {base : Nat} {ok : Nat → Prop} {w0 W W' : World} {v : Value} {l : List (Int × Int)} (h : RPt w0 W v l) (ht : Turned base ok W W') (hn : ∀ j, ok j → j < w0.heap.size) : RPt w0 W' v l :=
  Kd.R_mono (Kd.R_move (Kd.R_bound h) (fun k hk => ht.2 k hk.2.2.1 (fun e => by have := hn k e.1; have := hk.2.1; omega))) (fun _ _ => trivial)
set_option maxHeartbeats 4000000 in
set_option maxRecDepth 100000 in
theorem copies_calls (D : Nat) (s : Sh) (c : Value × Value × Value) (x y : Int) (w : World) (hw1 : 1 ≤ w.heap.size) (hs : ShB w.heap.size w D c s) (hF : FormsAt w) :
    Calls Tryd.prog 6 #[.agg #[c.1, c.2.1, c.2.2], .agg #[.int .i64 x, .int .i64 y]] w fun e w' => e = .returned (.bool true) ∧ Bel w w' := by
  have HS := Lib.hid hs
  have HL := Lib.hid (fun w1 h => rLight_calls D s c w1 w.heap.size h)
  obtain ⟨kd, e1, e2, e3, e4, e5, e6, rfl⟩ := hs.forms
  dsimp only
  have HF := Lib.hid hF
  have HW1 := Lib.hid hw1
  clear hs hF hw1
  have A := (Blk.new w #[.int .i64 kd, .slice e1 e2 e3, .slice e4 e5 e6] 25).alloc (.cells #[.int .i64 x, .int .i64 y] 41)
  have T := Blk.new_at (W := w.alloc (.cells #[.int .i64 kd, .slice e1 e2 e3, .slice e4 e5 e6] 25)) (g := w.heap.size + 1) (by simp) #[.int .i64 x, .int .i64 y] 41
  have HB : Hid (Below w.heap.size w ((w.alloc (.cells #[.int .i64 kd, .slice e1 e2 e3, .slice e4 e5 e6] 25)).alloc (.cells #[.int .i64 x, .int .i64 y] 41))) := Lib.hid (by repeat (first | exact Below.refl _ _ | refine Below.alloc ?_ (by simp <;> omega) _))
  go_enter Tryd.func6, Tryd.ntmps6
  go_upto_region 1 with (fail)
  obtain ⟨W, hW⟩ : ∃ W, (w.alloc (.cells #[.int .i64 kd, .slice e1 e2 e3, .slice e4 e5 e6] 25)).alloc (.cells #[.int .i64 x, .int .i64 y] 41) = W := ⟨_, rfl⟩
  rw [hW] at A T HB ⊢
  clear hW
  obtain ⟨gs, hg⟩ : ∃ g, w.heap.size = g := ⟨_, rfl⟩
  have HGS := Lib.hid hg
  rw [hg] at A T ⊢
  obtain ⟨gt, hg2⟩ : ∃ g, gs + 1 = g := ⟨_, rfl⟩
  have HGT := Lib.hid hg2
  rw [hg2] at T ⊢
  clear hg hg2
  have HGW := Lib.hid (Blk.lt T)
  have HA := Lib.hid A
  have HT := Lib.hid T
  obtain ⟨a0, a1, a2⟩ := Blk.cells3 A
  clear A T
  have HC1 := Lib.hid (HL.out W HB.out.size (HS.out.keep (KeepB.bel HB.out)))
  cases hl1 : light s
  case false =>
    rw [hl1] at HC1
    clear hl1
    go_wp2_with (first
      | (go_at_call 16; refine (HLV.out).mono ?_; rintro e W3 ⟨rfl, hb3⟩)
      | (go_at_call 15; refine (HC1.out).mono ?_; rintro e W2 ⟨rfl, hb2⟩; have HLV := Lib.hid (lives13 W2 (by have := HB.out.size; have := hb2.size; have := HW1.out; omega) (HF.out.bel (bthen HB.out hb2)))))
    go_ret
    exact ⟨by first | rfl | simp, bthen HB.out (bthen hb2 hb3)⟩
  rw [hl1] at HC1
  have HLI := Lib.hid (MShape.light_is hl1)
  clear hl1
  go_upto_region 3 with (go_at_call 15; refine (HC1.out).mono ?_; rintro e W2 ⟨rfl, hb2⟩)
  have HB2 := Lib.hid (bthen HB.out hb2)
  have A2 := Blk.bel HA.out hb2
  have HA2 := Lib.hid A2
  have HT2 := Lib.hid (Blk.bel HT.out hb2)
  have HG2 := Lib.hid (Nat.lt_of_lt_of_le HGW.out hb2.size)
  have HCP := Lib.hid (copy_calls D s (.int .i64 kd, .slice e1 e2 e3, .slice e4 e5 e6) W2 w.heap.size HB2.out.size (HS.out.keep (KeepB.bel HB2.out)) (by have := HLI.out; omega) (by have := HLI.out; omega))
  clear hb2 HC1 a0 a1 a2 HA HT HB HGW
  obtain ⟨a0, a1, a2⟩ := Blk.cells3 A2
  clear A2
  go_upto_region 4 with (go_at_call 33; refine (HCP.out).mono ?_; rintro e W3 ⟨cs3, rfl, hm3, hb3⟩; obtain ⟨d3, hM3⟩ := hm3.out; obtain ⟨m0, m1, m2, m3, m4, m5, m6, rfl⟩ := hM3.forms)
  have HM3 := Lib.hid ((hM3.bound.mono (ok' := fun j => W2.heap.size ≤ j ∧ j < W3.heap.size) (fun j hj => ⟨hj.2.1, hj.2.2.1⟩)).bel ((Below.refl _ W3).alloc (Nat.le_refl _) (.cells #[.int .i64 m0, .slice m1 m2 m3, .slice m4 m5 m6] 25)))
  have G4 := Blk.new W3 #[.int .i64 m0, .slice m1 m2 m3, .slice m4 m5 m6] 25
  have HB24 := Lib.hid (hb3.out.alloc hb3.out.size (.cells #[.int .i64 m0, .slice m1 m2 m3, .slice m4 m5 m6] 25))
  have H23 := Lib.hid hb3.out.size
  clear hM3 hm3 hb3
  obtain ⟨W4, hW⟩ : ∃ X, W3.alloc (.cells #[.int .i64 m0, .slice m1 m2 m3, .slice m4 m5 m6] 25) = X := ⟨_, rfl⟩
  rw [hW] at HM3 G4 HB24 ⊢
  obtain ⟨gc, hg⟩ : ∃ g, W3.heap.size = g := ⟨_, rfl⟩
  rw [hg] at HM3 G4 H23 ⊢
  clear hW hg a0 a1 a2
  have HB4 := Lib.hid (bthen HB2.out HB24.out)
  have A4 := Blk.bel HA2.out HB24.out
  obtain ⟨a0, a1, a2⟩ := Blk.cells3 A4
  obtain ⟨g0, g1, g2⟩ := Blk.cells3 G4
  have HA4 := Lib.hid A4
  have HG4 := Lib.hid G4
  have HT4 := Lib.hid (Blk.bel HT2.out HB24.out)
  clear A4 G4
  have hsa : ShB W4.heap.size W4 D (.int .i64 kd, .slice e1 e2 e3, .slice e4 e5 e6) s := (HS.out.keep (KeepB.bel HB4.out)).mono HB4.out.size
  have hsc : ShB W4.heap.size W4 d3 (.int .i64 m0, .slice m1 m2 m3, .slice m4 m5 m6) s := MW.shB (c := (.int .i64 m0, .slice m1 m2 m3, .slice m4 m5 m6)) HM3.out
  have HEQ1 : Hid (∀ W', Bel W4 W' → Calls Tryd.prog 30 #[.agg #[.int .i64 m0, .slice m1 m2 m3, .slice m4 m5 m6], .agg #[.int .i64 kd, .slice e1 e2 e3, .slice e4 e5 e6]] W' fun e w'' => e = .returned (.bool true) ∧ Bel W' w'') := Lib.hid (fun W' h => by have h9 := equal_calls d3 D s s _ _ W' W4.heap.size h.size (hsc.keep (KeepB.bel h)) (hsa.keep (KeepB.bel h)); rw [MShape.eqS_refl] at h9; exact h9)
  have HEQ2 : Hid (∀ W', Bel W4 W' → Calls Tryd.prog 30 #[.agg #[.int .i64 kd, .slice e1 e2 e3, .slice e4 e5 e6], .agg #[.int .i64 m0, .slice m1 m2 m3, .slice m4 m5 m6]] W' fun e w'' => e = .returned (.bool true) ∧ Bel W' w'') := Lib.hid (fun W' h => by have h9 := equal_calls D d3 s s _ _ W' W4.heap.size h.size (hsa.keep (KeepB.bel h)) (hsc.keep (KeepB.bel h)); rw [MShape.eqS_refl] at h9; exact h9)
  clear hsa hsc
  go_upto_region 6 with (first
    | (go_at_call 30; refine (HEQ2.out W5 hb5.out).mono ?_; rintro e W6 ⟨rfl, hb6⟩)
    | (go_at_call 30; refine (HEQ1.out W4 (Bel.refl W4)).mono ?_; rintro e W5 ⟨rfl, hb5⟩; have hb5 := Lib.hid hb5; clear a0 a1 a2 g0 g1 g2; obtain ⟨a0, a1, a2⟩ := Blk.cells3 (Blk.bel HA4.out hb5.out); obtain ⟨g0, g1, g2⟩ := Blk.cells3 (Blk.bel HG4.out hb5.out)))
  have HB46 := Lib.hid (bthen hb5.out hb6)
  clear a0 a1 a2 g0 g1 g2 hb5 hb6 HEQ1 HEQ2
  obtain ⟨a0, a1, a2⟩ := Blk.cells3 (Blk.bel HA4.out HB46.out)
  have HRA := Lib.hid (rAll_calls D s _ W6 w.heap.size (bthen HB4.out HB46.out).size (HS.out.keep (KeepB.bel (bthen HB4.out HB46.out))) (by have := HLI.out; omega))
  go_upto_region 7 with (go_at_call 29; refine (HRA.out).mono ?_; rintro e W7 ⟨v7, rfl, hr7, hb7⟩; obtain ⟨A7, c7, hv7, hc7, -⟩ := hr7.reads; have HR7 := Lib.hid hr7; have HB7 := Lib.hid hb7; clear hr7 hb7; subst hv7)
  have HB47 := Lib.hid (bthen HB46.out HB7.out)
  have H67 := Lib.hid HB46.out.size
  clear a0 a1 a2 HRA
  obtain ⟨g0, g1, g2⟩ := Blk.cells3 (Blk.bel HG4.out HB47.out)
  have HT7 := Lib.hid (Blk.bel HT4.out HB47.out)
  have t0 : W7.cell? ⟨gt, 0, none⟩ = some (.int .i64 x) := Blk.cell HT7.out 0 rfl
  have t1 : W7.cell? ⟨gt, 1, none⟩ = some (.int .i64 y) := Blk.cell HT7.out 1 rfl
  have HTN := Lib.hid (turn_calls d3 s [.int .i64 m0, .slice m1 m2 m3, .slice m4 m5 m6] W7 W2.heap.size (fun j => W2.heap.size ≤ j ∧ j < gc) x y 0 (HM3.out.bel HB47.out) (bthen HB24.out HB47.out).size (by omega) (by omega))
  obtain ⟨fl, hfl⟩ : ∃ l, s.flat = l := ⟨_, rfl⟩
  have HFL := Lib.hid hfl
  rw [hfl] at HR7 HTN hc7 ⊢
  clear hfl
  have HTB : Hid (∀ W', Bel W7 W' → Turned W2.heap.size (fun j => W2.heap.size ≤ j ∧ j < gc) W7 W') := Lib.hid (fun W' h => Turned.bel (bthen HB24.out HB47.out).size h)
  go_upto_region 9 with (go_at_call 34; refine (HTN.out).mono ?_; rintro e W8 (⟨rfl, h8⟩ | ⟨rfl, h8⟩) <;> (first | (have HTU := Lib.hid (HTB.out W8 h8); clear h8) | (have hz : ((fl.length : Int) == 0) = false := (by have h9 := h8.out.1; simp; intro e; exact h9 e); have HTU := Lib.hid h8.out.2; clear h8)))
  all_goals
    have HN : ∀ g : Nat, g < W2.heap.size ∨ gc ≤ g → ¬ (W2.heap.size ≤ g ∧ g < gc) := fun g h e => by omega
    have A8 := HTU.out.blk (Blk.bel HA4.out HB47.out) (HN gs (.inl (Blk.lt HA2.out)))
    have HB8 : Hid (Below w.heap.size w W8) := Lib.hid ((bthen HB4.out HB47.out).trans (HTU.out.1.mono HB2.out.size))
    have HR8 := Lib.hid (HR7.out.turned HTU.out (fun j hj => by have := hj.2; have := H67.out; have := Blk.lt HG4.out; omega))
    have HF8 := Lib.hid (HF.out.keep (show KeepB 1 w W8 from fun j hj cs t r hc => (HB8.out.block j (by have := HW1.out; omega)).trans hc))
    have HS8 := Lib.hid (HS.out.keep (show KeepB w.heap.size w W8 from fun j hj cs t r hc => (HB8.out.block j hj).trans hc))
    have HA8 := Lib.hid A8
    obtain ⟨a0, a1, a2⟩ := Blk.cells3 A8
    have HRB : Hid (Calls Tryd.prog 29 #[.agg #[.int .i64 kd, .slice e1 e2 e3, .slice e4 e5 e6]] W8 fun e w' => ∃ v, e = .returned v ∧ RPt W8 w' v fl ∧ Bel W8 w') := Lib.hid (by have h9 := rAll_calls D s (.int .i64 kd, .slice e1 e2 e3, .slice e4 e5 e6) W8 w.heap.size HB8.out.size HS8.out (by have := HLI.out; omega); rw [HFL.out] at h9; exact h9)
    clear A8 g0 g1 g2 t0 t1
    go_wp2_with (first
      | (go_at_call 16; refine (HLV.out).mono ?_; rintro e WB ⟨rfl, hbB⟩)
      | (go_at_call 32; refine (HSM.out).mono ?_; rintro e WA ⟨rfl, hbA⟩; have HLV := Lib.hid (lives13 WA (by have := HB8.out.size; have := hb9.size; have := hbA.size; have := HW1.out; omega) (HF8.out.bel (bthen hb9 hbA))))
      | (go_at_call 29; refine (HRB.out).mono ?_; rintro e W9 ⟨v9, rfl, hr9, hb9⟩; obtain ⟨A9, c9, hv9, hc9, hC9⟩ := hr9.reads; subst hv9; obtain ⟨A0, c0, e0, hc0, hC0⟩ := (HR8.out.below hb9).reads; injection e0 with e01 e02 e03; subst e01 e03; have HSM := Lib.hid (same_calls _ _ fl fl W9 W9.heap.size (hC9.pts hc9) (hC0.pts hc0) true ((MShape.eqPts_iff _ _).2 rfl)); clear hr9 hc9 hC9 hC0 hc0 e02))
    go_ret
    exact ⟨by first | rfl | simp, bthen HB8.out (bthen hb9 (bthen hbA hbB))⟩

end Go.Proofs.YtfknhpgelleenaaDoor.K
