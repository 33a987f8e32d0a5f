/- What a claim leans on, part 48, cut by a program out of the texts WBack16. -/
import Derived.Handy
import Derived.Test.YtfknhpgelleenaaDoorZB4
import Derived.Test.YtfknhpgelleenaaDoorZB21
import Derived.Test.YtfknhpgelleenaaDoorZB24
import Derived.Test.YtfknhpgelleenaaDoorZB26
import Derived.Test.YtfknhpgelleenaaDoorZB40
import Derived.Test.YtfknhpgelleenaaDoorZB41
import Derived.Test.YtfknhpgelleenaaDoorZB42
import Derived.Test.YtfknhpgelleenaaDoorZB43
import Derived.Test.YtfknhpgelleenaaDoorZB44
import Derived.Test.YtfknhpgelleenaaDoorZB47
section
namespace Go.Proofs.YtfknhpgelleenaaDoor.K
open Go Go.RowKit Go.Proofs.YtfknhpgelleenaaDoorW.PrintWords Go.Proofs.YtfknhpgelleenaaDoorW.PrintLast Go.Proofs.YtfknhpgelleenaaDoorW.PrintMore
set_option linter.unusedVariables false
set_option linter.unusedSimpArgs false
open Go.Proofs.YtfknhpgelleenaaDoor.MPeek
open Go.Proofs.YtfknhpgelleenaaDoor.MBox (noneB zeroB good)
open Go.Proofs.YtfknhpgelleenaaDoor.MShape (Sh)
open Go.Proofs.YtfknhpgelleenaaDoor.MRead (readS inS inI)
set_option maxHeartbeats 8000000 in
set_option maxRecDepth 100000 in
theorem bback_no1 (D : Nat) (s : Sh) (c : Value × Value × Value) (srs : Int) (o bx : Bool) (n : Int) (w : World) (hn : 0 ≤ n ∧ n < 18446744073709551616) (hw2 : 2 ≤ w.heap.size) (hs : ShB w.heap.size w D c s) (hok : shOk s) (hF : FormsAt w) (hN : NowAt w) (hck : MShape.check s ≠ 0) :
    Calls Tryd.prog 12 #[.agg #[c.1, c.2.1, c.2.2], .agg #[.int .i64 srs, .bool o, .bool bx], .int .u64 n] w fun e w' => e = .returned (.bool true) ∧ Bel w w' := by
  have HE := Lib.hid (fun bx W h1 h2 h3 h4 h5 => make_calls D s c srs o bx W w.heap.size h1 h2 h3 h4 h5)
  have HR := Lib.hid (fun W h1 h2 => rcheck_calls D s c W w.heap.size h1 h2)
  have HRF := Lib.hid (fun W h1 h2 h3 => refOf_calls D s c W w.heap.size h1 h2 h3)
  have HS := Lib.hid hs
  have HOK : Hid (inS s) := Lib.hid (flat_in hok)
  obtain ⟨kd, u1, u2, u3, u4, u5, u6, rfl⟩ := hs.forms
  dsimp only at HE HR HRF HS ⊢
  have HGL : Hid (Gl w) := Lib.hid ⟨hF, hN, hw2⟩
  have HNN := Lib.hid hn
  have HX : Hid (blobB o bx srs s = []) := Lib.hid (by unfold blobB; rw [if_neg (fun e => hck e.1)])
  clear hs hF hN hw2 hok hn
  have S := (Blk.new w #[.int .i64 kd, .slice u1 u2 u3, .slice u4 u5 u6] 25).alloc (.cells #[.int .i64 srs, .bool o, .bool bx] 53)
  have H := Blk.new_at (W := w.alloc (.cells #[.int .i64 kd, .slice u1 u2 u3, .slice u4 u5 u6] 25)) (g := w.heap.size + 1) (by simp) #[.int .i64 srs, .bool o, .bool bx] 53
  have HB : Hid (Bel w ((w.alloc (.cells #[.int .i64 kd, .slice u1 u2 u3, .slice u4 u5 u6] 25)).alloc (.cells #[.int .i64 srs, .bool o, .bool bx] 53))) := Lib.hid (((Bel.refl w).alloc (Nat.le_refl _) _).alloc (by simp) _)
  have HLV : Hid (∀ W', Bel w W' → Calls Tryd.prog 40 #[] W' fun e w'' => e = .returned (.bool true) ∧ Bel W' w'') := Lib.hid (fun W' h => lives16 W' (Nat.le_trans HGL.out.2.2 h.size) (HGL.out.1.bel h) (HGL.out.2.1.below HGL.out.2.2 h))
  have HE1 : Hid (∀ bx W', Bel w W' → Calls Tryd.prog 39 #[.agg #[.int .i64 kd, .slice u1 u2 u3, .slice u4 u5 u6], .int .i64 srs, .bool o, .bool bx] W' fun e w'' => ∃ v, e = .returned v ∧ Hid (RB W' w'' v (blobB o bx srs s)) ∧ Hid (Bel W' w'')) := Lib.hid (fun bx W' h => HE.out bx W' h.size (Nat.le_trans HGL.out.2.2 h.size) (HS.out.keep (KeepB.bel h)) (HGL.out.1.bel h) (HGL.out.2.1.below HGL.out.2.2 h))
  have HR1 : Hid (∀ W', Bel w W' → Calls Tryd.prog 42 #[.agg #[.int .i64 kd, .slice u1 u2 u3, .slice u4 u5 u6]] W' fun e w' => e = .returned (.int .i64 (MShape.check s)) ∧ Bel W' w') := Lib.hid (fun W' h => HR.out W' h.size (HS.out.keep (KeepB.bel h)))
  go_enter Tryd.func12, Tryd.ntmps12
  go_upto_region 1 with (fail)
  obtain ⟨W1, hW⟩ : ∃ X, (w.alloc (.cells #[.int .i64 kd, .slice u1 u2 u3, .slice u4 u5 u6] 25)).alloc (.cells #[.int .i64 srs, .bool o, .bool bx] 53) = X := ⟨_, rfl⟩
  rw [hW] at S H HB ⊢
  clear hW
  obtain ⟨gs, hg⟩ : ∃ X, w.heap.size = X := ⟨_, rfl⟩
  have HGS := Lib.hid hg
  rw [hg] at S H ⊢
  obtain ⟨gh, hg2⟩ : ∃ X, gs + 1 = X := ⟨_, rfl⟩
  rw [hg2] at H ⊢
  clear hg hg2
  obtain ⟨s0, s1, s2⟩ := Blk.cells3 S
  obtain ⟨h0, h1, h2⟩ := Blk.cells3 H
  have HSB := Lib.hid S
  have HHB := Lib.hid H
  clear S H HE HR
  obtain ⟨ck, hck2⟩ : ∃ ck, MShape.check s = ck := ⟨_, rfl⟩
  rw [hck2] at HR1 hck
  have hX := HX.out
  have HE2 : Hid (∀ W', Bel w W' → Calls Tryd.prog 39 #[.agg #[.int .i64 kd, .slice u1 u2 u3, .slice u4 u5 u6], .int .i64 srs, .bool o, .bool bx] W' fun e w'' => ∃ v, e = .returned v ∧ Hid (RB W' w'' v []) ∧ Hid (Bel W' w'')) := Lib.hid (fun W' h => by have := HE1.out bx W' h; rw [hX] at this; exact this)
  have hckz : (ck == 0) = false := by simpa using hck
  have hckn : (ck != 0) = true := by simpa using hck
  clear hX hck2 hck HX
  go_wp2_with (first
    | (go_at_call 40; refine (HLV.out _ B3.out).mono ?_; rintro e w5 ⟨rfl, hb5⟩; have B5 := Lib.hid hb5; clear hb5)
    | (go_at_call 42; refine (HR1.out _ B2.out).mono ?_; rintro e w4 ⟨rfl, hb4⟩; have B3 := Lib.hid (bthen B2.out hb4); clear h0 h1 h2; obtain ⟨h0, h1, h2⟩ := Blk.cells3 (Blk.bel HH2.out hb4); clear hb4)
    | (go_at_call 39; refine (HE2.out _ HB.out).mono ?_; rintro e w2 ⟨v2, rfl, hr2, hb2⟩; obtain ⟨A, cap, hv2, hcap, hC⟩ := hr2.out.reads; subst hv2; have B2 := Lib.hid (bthen HB.out hb2.out); have HH2 := Lib.hid (Blk.bel HHB.out hb2.out); clear s0 s1 s2 h0 h1 h2; obtain ⟨s0, s1, s2⟩ := Blk.cells3 (Blk.bel HSB.out hb2.out); obtain ⟨h0, h1, h2⟩ := Blk.cells3 HH2.out))
  go_ret
  exact ⟨by first | rfl | simp, bthen B3.out B5.out⟩
set_option maxHeartbeats 8000000 in
set_option maxRecDepth 100000 in
theorem bback_no2 (D : Nat) (s : Sh) (c : Value × Value × Value) (srs : Int) (o bx : Bool) (n : Int) (w : World) (hn : 0 ≤ n ∧ n < 18446744073709551616) (hw2 : 2 ≤ w.heap.size) (hs : ShB w.heap.size w D c s) (hok : shOk s) (hF : FormsAt w) (hN : NowAt w) (hck : MShape.check s = 0) (hsr : srs < -2147483648) :
    Calls Tryd.prog 12 #[.agg #[c.1, c.2.1, c.2.2], .agg #[.int .i64 srs, .bool o, .bool bx], .int .u64 n] w fun e w' => e = .returned (.bool true) ∧ Bel w w' := by
  have HE := Lib.hid (fun bx W h1 h2 h3 h4 h5 => make_calls D s c srs o bx W w.heap.size h1 h2 h3 h4 h5)
  have HR := Lib.hid (fun W h1 h2 => rcheck_calls D s c W w.heap.size h1 h2)
  have HRF := Lib.hid (fun W h1 h2 h3 => refOf_calls D s c W w.heap.size h1 h2 h3)
  have HS := Lib.hid hs
  have HOK : Hid (inS s) := Lib.hid (flat_in hok)
  obtain ⟨kd, u1, u2, u3, u4, u5, u6, rfl⟩ := hs.forms
  dsimp only at HE HR HRF HS ⊢
  have HGL : Hid (Gl w) := Lib.hid ⟨hF, hN, hw2⟩
  have HNN := Lib.hid hn
  have HX : Hid (blobB o bx srs s = []) := Lib.hid (by unfold blobB; rw [if_neg (fun e => by have h9 := e.2; unfold srsOk at h9; simp only [Bool.and_eq_true, decide_eq_true_eq] at h9; omega)])
  have HSR := Lib.hid hsr
  clear hsr
  clear hs hF hN hw2 hok hn
  have S := (Blk.new w #[.int .i64 kd, .slice u1 u2 u3, .slice u4 u5 u6] 25).alloc (.cells #[.int .i64 srs, .bool o, .bool bx] 53)
  have H := Blk.new_at (W := w.alloc (.cells #[.int .i64 kd, .slice u1 u2 u3, .slice u4 u5 u6] 25)) (g := w.heap.size + 1) (by simp) #[.int .i64 srs, .bool o, .bool bx] 53
  have HB : Hid (Bel w ((w.alloc (.cells #[.int .i64 kd, .slice u1 u2 u3, .slice u4 u5 u6] 25)).alloc (.cells #[.int .i64 srs, .bool o, .bool bx] 53))) := Lib.hid (((Bel.refl w).alloc (Nat.le_refl _) _).alloc (by simp) _)
  have HLV : Hid (∀ W', Bel w W' → Calls Tryd.prog 40 #[] W' fun e w'' => e = .returned (.bool true) ∧ Bel W' w'') := Lib.hid (fun W' h => lives16 W' (Nat.le_trans HGL.out.2.2 h.size) (HGL.out.1.bel h) (HGL.out.2.1.below HGL.out.2.2 h))
  have HE1 : Hid (∀ bx W', Bel w W' → Calls Tryd.prog 39 #[.agg #[.int .i64 kd, .slice u1 u2 u3, .slice u4 u5 u6], .int .i64 srs, .bool o, .bool bx] W' fun e w'' => ∃ v, e = .returned v ∧ Hid (RB W' w'' v (blobB o bx srs s)) ∧ Hid (Bel W' w'')) := Lib.hid (fun bx W' h => HE.out bx W' h.size (Nat.le_trans HGL.out.2.2 h.size) (HS.out.keep (KeepB.bel h)) (HGL.out.1.bel h) (HGL.out.2.1.below HGL.out.2.2 h))
  have HR1 : Hid (∀ W', Bel w W' → Calls Tryd.prog 42 #[.agg #[.int .i64 kd, .slice u1 u2 u3, .slice u4 u5 u6]] W' fun e w' => e = .returned (.int .i64 (MShape.check s)) ∧ Bel W' w') := Lib.hid (fun W' h => HR.out W' h.size (HS.out.keep (KeepB.bel h)))
  go_enter Tryd.func12, Tryd.ntmps12
  go_upto_region 1 with (fail)
  obtain ⟨W1, hW⟩ : ∃ X, (w.alloc (.cells #[.int .i64 kd, .slice u1 u2 u3, .slice u4 u5 u6] 25)).alloc (.cells #[.int .i64 srs, .bool o, .bool bx] 53) = X := ⟨_, rfl⟩
  rw [hW] at S H HB ⊢
  clear hW
  obtain ⟨gs, hg⟩ : ∃ X, w.heap.size = X := ⟨_, rfl⟩
  have HGS := Lib.hid hg
  rw [hg] at S H ⊢
  obtain ⟨gh, hg2⟩ : ∃ X, gs + 1 = X := ⟨_, rfl⟩
  rw [hg2] at H ⊢
  clear hg hg2
  obtain ⟨s0, s1, s2⟩ := Blk.cells3 S
  obtain ⟨h0, h1, h2⟩ := Blk.cells3 H
  have HSB := Lib.hid S
  have HHB := Lib.hid H
  clear S H HE HR
  rw [hck] at HR1
  have hX := HX.out
  have HE2 : Hid (∀ W', Bel w W' → Calls Tryd.prog 39 #[.agg #[.int .i64 kd, .slice u1 u2 u3, .slice u4 u5 u6], .int .i64 srs, .bool o, .bool bx] W' fun e w'' => ∃ v, e = .returned v ∧ Hid (RB W' w'' v []) ∧ Hid (Bel W' w'')) := Lib.hid (fun W' h => by have := HE1.out bx W' h; rw [hX] at this; exact this)
  clear hX hck HX
  have hlt : srs < -2147483648 := HSR.out
  go_wp2_with (first
    | (go_at_call 40; refine (HLV.out _ B3.out).mono ?_; rintro e w5 ⟨rfl, hb5⟩; have B5 := Lib.hid hb5; clear hb5)
    | (go_at_call 42; refine (HR1.out _ B2.out).mono ?_; rintro e w4 ⟨rfl, hb4⟩; have B3 := Lib.hid (bthen B2.out hb4); clear h0 h1 h2; obtain ⟨h0, h1, h2⟩ := Blk.cells3 (Blk.bel HH2.out hb4); clear hb4)
    | (go_at_call 39; refine (HE2.out _ HB.out).mono ?_; rintro e w2 ⟨v2, rfl, hr2, hb2⟩; obtain ⟨A, cap, hv2, hcap, hC⟩ := hr2.out.reads; subst hv2; have B2 := Lib.hid (bthen HB.out hb2.out); have HH2 := Lib.hid (Blk.bel HHB.out hb2.out); clear s0 s1 s2 h0 h1 h2; obtain ⟨s0, s1, s2⟩ := Blk.cells3 (Blk.bel HSB.out hb2.out); obtain ⟨h0, h1, h2⟩ := Blk.cells3 HH2.out))
  go_ret
  exact ⟨by first | rfl | simp, bthen B3.out B5.out⟩
set_option maxHeartbeats 8000000 in
set_option maxRecDepth 100000 in
theorem bback_no3 (D : Nat) (s : Sh) (c : Value × Value × Value) (srs : Int) (o bx : Bool) (n : Int) (w : World) (hn : 0 ≤ n ∧ n < 18446744073709551616) (hw2 : 2 ≤ w.heap.size) (hs : ShB w.heap.size w D c s) (hok : shOk s) (hF : FormsAt w) (hN : NowAt w) (hck : MShape.check s = 0) (hsr : 2147483647 < srs) :
    Calls Tryd.prog 12 #[.agg #[c.1, c.2.1, c.2.2], .agg #[.int .i64 srs, .bool o, .bool bx], .int .u64 n] w fun e w' => e = .returned (.bool true) ∧ Bel w w' := by
  have HE := Lib.hid (fun bx W h1 h2 h3 h4 h5 => make_calls D s c srs o bx W w.heap.size h1 h2 h3 h4 h5)
  have HR := Lib.hid (fun W h1 h2 => rcheck_calls D s c W w.heap.size h1 h2)
  have HRF := Lib.hid (fun W h1 h2 h3 => refOf_calls D s c W w.heap.size h1 h2 h3)
  have HS := Lib.hid hs
  have HOK : Hid (inS s) := Lib.hid (flat_in hok)
  obtain ⟨kd, u1, u2, u3, u4, u5, u6, rfl⟩ := hs.forms
  dsimp only at HE HR HRF HS ⊢
  have HGL : Hid (Gl w) := Lib.hid ⟨hF, hN, hw2⟩
  have HNN := Lib.hid hn
  have HX : Hid (blobB o bx srs s = []) := Lib.hid (by unfold blobB; rw [if_neg (fun e => by have h9 := e.2; unfold srsOk at h9; simp only [Bool.and_eq_true, decide_eq_true_eq] at h9; omega)])
  have HSR := Lib.hid hsr
  clear hsr
  clear hs hF hN hw2 hok hn
  have S := (Blk.new w #[.int .i64 kd, .slice u1 u2 u3, .slice u4 u5 u6] 25).alloc (.cells #[.int .i64 srs, .bool o, .bool bx] 53)
  have H := Blk.new_at (W := w.alloc (.cells #[.int .i64 kd, .slice u1 u2 u3, .slice u4 u5 u6] 25)) (g := w.heap.size + 1) (by simp) #[.int .i64 srs, .bool o, .bool bx] 53
  have HB : Hid (Bel w ((w.alloc (.cells #[.int .i64 kd, .slice u1 u2 u3, .slice u4 u5 u6] 25)).alloc (.cells #[.int .i64 srs, .bool o, .bool bx] 53))) := Lib.hid (((Bel.refl w).alloc (Nat.le_refl _) _).alloc (by simp) _)
  have HLV : Hid (∀ W', Bel w W' → Calls Tryd.prog 40 #[] W' fun e w'' => e = .returned (.bool true) ∧ Bel W' w'') := Lib.hid (fun W' h => lives16 W' (Nat.le_trans HGL.out.2.2 h.size) (HGL.out.1.bel h) (HGL.out.2.1.below HGL.out.2.2 h))
  have HE1 : Hid (∀ bx W', Bel w W' → Calls Tryd.prog 39 #[.agg #[.int .i64 kd, .slice u1 u2 u3, .slice u4 u5 u6], .int .i64 srs, .bool o, .bool bx] W' fun e w'' => ∃ v, e = .returned v ∧ Hid (RB W' w'' v (blobB o bx srs s)) ∧ Hid (Bel W' w'')) := Lib.hid (fun bx W' h => HE.out bx W' h.size (Nat.le_trans HGL.out.2.2 h.size) (HS.out.keep (KeepB.bel h)) (HGL.out.1.bel h) (HGL.out.2.1.below HGL.out.2.2 h))
  have HR1 : Hid (∀ W', Bel w W' → Calls Tryd.prog 42 #[.agg #[.int .i64 kd, .slice u1 u2 u3, .slice u4 u5 u6]] W' fun e w' => e = .returned (.int .i64 (MShape.check s)) ∧ Bel W' w') := Lib.hid (fun W' h => HR.out W' h.size (HS.out.keep (KeepB.bel h)))
  go_enter Tryd.func12, Tryd.ntmps12
  go_upto_region 1 with (fail)
  obtain ⟨W1, hW⟩ : ∃ X, (w.alloc (.cells #[.int .i64 kd, .slice u1 u2 u3, .slice u4 u5 u6] 25)).alloc (.cells #[.int .i64 srs, .bool o, .bool bx] 53) = X := ⟨_, rfl⟩
  rw [hW] at S H HB ⊢
  clear hW
  obtain ⟨gs, hg⟩ : ∃ X, w.heap.size = X := ⟨_, rfl⟩
  have HGS := Lib.hid hg
  rw [hg] at S H ⊢
  obtain ⟨gh, hg2⟩ : ∃ X, gs + 1 = X := ⟨_, rfl⟩
  rw [hg2] at H ⊢
  clear hg hg2
  obtain ⟨s0, s1, s2⟩ := Blk.cells3 S
  obtain ⟨h0, h1, h2⟩ := Blk.cells3 H
  have HSB := Lib.hid S
  have HHB := Lib.hid H
  clear S H HE HR
  rw [hck] at HR1
  have hX := HX.out
  have HE2 : Hid (∀ W', Bel w W' → Calls Tryd.prog 39 #[.agg #[.int .i64 kd, .slice u1 u2 u3, .slice u4 u5 u6], .int .i64 srs, .bool o, .bool bx] W' fun e w'' => ∃ v, e = .returned v ∧ Hid (RB W' w'' v []) ∧ Hid (Bel W' w'')) := Lib.hid (fun W' h => by have := HE1.out bx W' h; rw [hX] at this; exact this)
  clear hX hck HX
  have hlt : 2147483647 < srs := HSR.out
  have hnl : ¬ srs < -2147483648 := by omega
  go_wp2_with (first
    | (go_at_call 40; refine (HLV.out _ B3.out).mono ?_; rintro e w5 ⟨rfl, hb5⟩; have B5 := Lib.hid hb5; clear hb5)
    | (go_at_call 42; refine (HR1.out _ B2.out).mono ?_; rintro e w4 ⟨rfl, hb4⟩; have B3 := Lib.hid (bthen B2.out hb4); clear h0 h1 h2; obtain ⟨h0, h1, h2⟩ := Blk.cells3 (Blk.bel HH2.out hb4); clear hb4)
    | (go_at_call 39; refine (HE2.out _ HB.out).mono ?_; rintro e w2 ⟨v2, rfl, hr2, hb2⟩; obtain ⟨A, cap, hv2, hcap, hC⟩ := hr2.out.reads; subst hv2; have B2 := Lib.hid (bthen HB.out hb2.out); have HH2 := Lib.hid (Blk.bel HHB.out hb2.out); clear s0 s1 s2 h0 h1 h2; obtain ⟨s0, s1, s2⟩ := Blk.cells3 (Blk.bel HSB.out hb2.out); obtain ⟨h0, h1, h2⟩ := Blk.cells3 HH2.out))
  go_ret
  exact ⟨by first | rfl | simp, bthen B3.out B5.out⟩
set_option maxHeartbeats 8000000 in
set_option maxRecDepth 100000 in
theorem bback_yes (D : Nat) (s : Sh) (c : Value × Value × Value) (srs : Int) (o bx : Bool) (n : Int) (w : World) (hn : 0 ≤ n ∧ n < 18446744073709551616) (hw2 : 2 ≤ w.heap.size) (hs : ShB w.heap.size w D c s) (hok : shOk s) (hF : FormsAt w) (hN : NowAt w) (hck : MShape.check s = 0) (hsr : srsOk srs = true) :
    Calls Tryd.prog 12 #[.agg #[c.1, c.2.1, c.2.2], .agg #[.int .i64 srs, .bool o, .bool bx], .int .u64 n] w fun e w' => e = .returned (.bool true) ∧ Bel w w' := by
  have HE := Lib.hid (fun bx W h1 h2 h3 h4 h5 => make_calls D s c srs o bx W w.heap.size h1 h2 h3 h4 h5)
  have HR := Lib.hid (fun W h1 h2 => rcheck_calls D s c W w.heap.size h1 h2)
  have HRF := Lib.hid (fun W h1 h2 h3 => refOf_calls D s c W w.heap.size h1 h2 h3)
  have HS := Lib.hid hs
  have HOK : Hid (inS s) := Lib.hid (flat_in hok)
  obtain ⟨kd, u1, u2, u3, u4, u5, u6, rfl⟩ := hs.forms
  dsimp only at HE HR HRF HS ⊢
  have HGL : Hid (Gl w) := Lib.hid ⟨hF, hN, hw2⟩
  have HNN := Lib.hid hn
  have hsr' := hsr
  obtain ⟨b, hbe⟩ : ∃ b, boxOf s.flat = b := ⟨_, rfl⟩
  have HX : Hid (blobB o bx srs s = blobL o bx srs s b) := Lib.hid (by unfold blobB; rw [if_pos ⟨hck, hsr⟩, hbe])
  have HLEN : Hid (17 ≤ (blobL o bx srs s b).length ∧ (blobL o bx srs s b).length < 100040) := Lib.hid (blobL_len hck)
  have HOPS : Hid (openS boxOf (blobL o bx srs s b) = .ok (hdH o (bx && !b.no) b.no srs b) s) := Lib.hid (by have := open_blob hck HOK.out hsr o bx; rw [hbe] at this; exact this)
  have HC1 : Hid (∀ m, m < (blobL o bx srs s b).length → ∃ c, c ≠ 0 ∧ openS boxOf ((blobL o bx srs s b).take m) = .bad c) := Lib.hid (fun m hm => by have := open_cut hck HOK.out hsr o bx (m := m) (by rw [hbe]; exact hm); rw [hbe] at this; exact this)
  have HC2 : Hid (∀ x, ∃ c, c ≠ 0 ∧ openS boxOf (blobL o bx srs s b ++ [x]) = .bad c) := Lib.hid (fun x => by have := open_more hck HOK.out hsr o bx x; rw [hbe] at this; exact this)
  have HBY := Lib.hid (bytes_blobL o bx srs s b)
  have HFL : Hid (s.flat.length < 1000000) := Lib.hid (by have := (MRead.check_is hck).2.2.1; omega)
  have HRF1 : Hid (∀ W', Bel w W' → Calls Tryd.prog 47 #[.agg #[.int .i64 kd, .slice u1 u2 u3, .slice u4 u5 u6]] W' fun e w' => e = .returned (.agg #[.bool b.no, .int .i64 b.lx, .int .i64 b.ly, .int .i64 b.hx, .int .i64 b.hy]) ∧ Bel W' w') := Lib.hid (fun W' h => by have := HRF.out W' h.size (HS.out.keep (KeepB.bel h)) HFL.out; rw [hbe] at this; exact this)
  clear hsr' hsr hck hbe HRF
  clear hs hF hN hw2 hok hn
  have S := (Blk.new w #[.int .i64 kd, .slice u1 u2 u3, .slice u4 u5 u6] 25).alloc (.cells #[.int .i64 srs, .bool o, .bool bx] 53)
  have H := Blk.new_at (W := w.alloc (.cells #[.int .i64 kd, .slice u1 u2 u3, .slice u4 u5 u6] 25)) (g := w.heap.size + 1) (by simp) #[.int .i64 srs, .bool o, .bool bx] 53
  have HB : Hid (Bel w ((w.alloc (.cells #[.int .i64 kd, .slice u1 u2 u3, .slice u4 u5 u6] 25)).alloc (.cells #[.int .i64 srs, .bool o, .bool bx] 53))) := Lib.hid (((Bel.refl w).alloc (Nat.le_refl _) _).alloc (by simp) _)
  have HLV : Hid (∀ W', Bel w W' → Calls Tryd.prog 40 #[] W' fun e w'' => e = .returned (.bool true) ∧ Bel W' w'') := Lib.hid (fun W' h => lives16 W' (Nat.le_trans HGL.out.2.2 h.size) (HGL.out.1.bel h) (HGL.out.2.1.below HGL.out.2.2 h))
  have HE1 : Hid (∀ bx W', Bel w W' → Calls Tryd.prog 39 #[.agg #[.int .i64 kd, .slice u1 u2 u3, .slice u4 u5 u6], .int .i64 srs, .bool o, .bool bx] W' fun e w'' => ∃ v, e = .returned v ∧ Hid (RB W' w'' v (blobB o bx srs s)) ∧ Hid (Bel W' w'')) := Lib.hid (fun bx W' h => HE.out bx W' h.size (Nat.le_trans HGL.out.2.2 h.size) (HS.out.keep (KeepB.bel h)) (HGL.out.1.bel h) (HGL.out.2.1.below HGL.out.2.2 h))
  have HR1 : Hid (∀ W', Bel w W' → Calls Tryd.prog 42 #[.agg #[.int .i64 kd, .slice u1 u2 u3, .slice u4 u5 u6]] W' fun e w' => e = .returned (.int .i64 (MShape.check s)) ∧ Bel W' w') := Lib.hid (fun W' h => HR.out W' h.size (HS.out.keep (KeepB.bel h)))
  go_enter Tryd.func12, Tryd.ntmps12
  go_upto_region 1 with (fail)
  obtain ⟨W1, hW⟩ : ∃ X, (w.alloc (.cells #[.int .i64 kd, .slice u1 u2 u3, .slice u4 u5 u6] 25)).alloc (.cells #[.int .i64 srs, .bool o, .bool bx] 53) = X := ⟨_, rfl⟩
  rw [hW] at S H HB ⊢
  clear hW
  obtain ⟨gs, hg⟩ : ∃ X, w.heap.size = X := ⟨_, rfl⟩
  have HGS := Lib.hid hg
  rw [hg] at S H ⊢
  obtain ⟨gh, hg2⟩ : ∃ X, gs + 1 = X := ⟨_, rfl⟩
  rw [hg2] at H ⊢
  clear hg hg2
  obtain ⟨s0, s1, s2⟩ := Blk.cells3 S
  obtain ⟨h0, h1, h2⟩ := Blk.cells3 H
  have HSB := Lib.hid S
  have HHB := Lib.hid H
  clear S H HE HR
  obtain ⟨T, hT⟩ : ∃ T, blobL o bx srs s b = T := ⟨_, rfl⟩
  have hX := HX.out
  rw [hT] at hX HLEN HOPS HC1 HC2 HBY
  have HE2 : Hid (∀ W', Bel w W' → Calls Tryd.prog 39 #[.agg #[.int .i64 kd, .slice u1 u2 u3, .slice u4 u5 u6], .int .i64 srs, .bool o, .bool bx] W' fun e w'' => ∃ v, e = .returned v ∧ Hid (RB W' w'' v T) ∧ Hid (Bel W' w'')) := Lib.hid (fun W' h => by have := HE1.out bx W' h; rw [hX] at this; exact this)
  clear hX hT HX HE1
  obtain ⟨B, hB⟩ : ∃ B, (bx && !b.no) = B := ⟨_, rfl⟩
  rw [hB] at HOPS
  obtain ⟨X, hXB⟩ : ∃ X, (if B = true then b else noneB) = X := ⟨_, rfl⟩
  have HXB := Lib.hid hXB
  have HBB := Lib.hid hB
  have HOPC : Hid (∀ A c W', CB W' A T → T.length ≤ c → Bel w W' → Calls Tryd.prog 46 #[.slice A T.length c] W' fun ex w' => ∃ k0 B1 m1 e1 B2 m2 e2, ex = .returned (.tuple #[.agg #[.int .i64 srs, .bool o, .bool B, .bool b.no, .bool X.no, .int .i64 X.lx, .int .i64 X.ly, .int .i64 X.hx, .int .i64 X.hy], .agg #[.int .i64 k0, .slice B1 m1 e1, .slice B2 m2 e2], .int .i64 0]) ∧ Hid (KW.M w' W'.heap.size (fun _ => True) s [.int .i64 k0, .slice B1 m1 e1, .slice B2 m2 e2]) ∧ Hid (Bel W' w')) := Lib.hid (fun A c W' h1 h2 h3 => by
    have := open_good W' A c T h1 h2 HBY.out (by have := HLEN.out.2; omega) (HGL.out.below h3 HGL.out.2.2) HOPS.out
    unfold hdC hdH at this
    simp only at this
    rw [hXB] at this
    exact this)
  clear hXB hB HOPS
  go_upto_region 2 with (go_at_call 39; refine (HE2.out _ HB.out).mono ?_; rintro e w2 ⟨v2, rfl, hr2, hb2⟩; obtain ⟨A, cap, hv2, hcap, hC⟩ := hr2.out.reads; subst hv2; have B2 := Lib.hid (bthen HB.out hb2.out); have HH2 := Lib.hid (Blk.bel HHB.out hb2.out); have HS2 := Lib.hid (Blk.bel HSB.out hb2.out))
  clear s0 s1 s2 h0 h1 h2
  have HC := Lib.hid hC
  have HOP2 := Lib.hid (HOPC.out A cap w2 hC hcap B2.out)
  obtain ⟨t, ht⟩ : ∃ t, T.length = t := ⟨_, rfl⟩
  rw [ht] at HLEN HC1 hcap HOP2 ⊢
  have HT := Lib.hid ht
  clear ht hC hr2 hb2 HOPC HE2
  have HCAP := Lib.hid hcap
  clear hcap
  have htz : ((t : Int) == 0) = false := by have := HLEN.out.1; simp; omega
  go_upto_region 4 with (fail)
  clear htz
  go_upto_region 5 with (go_at_call 46; refine (HOP2.out).mono ?_; rintro e w3 ⟨k0, B1, m1, e1, B2', m2, e2, rfl, hM, b3⟩)
  have XD := (Blk.new w3 #[.int .i64 srs, .bool o, .bool B, .bool b.no, .bool X.no, .int .i64 X.lx, .int .i64 X.ly, .int .i64 X.hx, .int .i64 X.hy] 69).alloc (.cells #[.int .i64 k0, .slice B1 m1 e1, .slice B2' m2 e2] 25)
  have XS := Blk.new_at (W := w3.alloc (.cells #[.int .i64 srs, .bool o, .bool B, .bool b.no, .bool X.no, .int .i64 X.lx, .int .i64 X.ly, .int .i64 X.hx, .int .i64 X.hy] 69)) (g := w3.heap.size + 1) (by simp) #[.int .i64 k0, .slice B1 m1 e1, .slice B2' m2 e2] 25
  have HB4 : Hid (Bel w3 ((w3.alloc (.cells #[.int .i64 srs, .bool o, .bool B, .bool b.no, .bool X.no, .int .i64 X.lx, .int .i64 X.ly, .int .i64 X.hx, .int .i64 X.hy] 69)).alloc (.cells #[.int .i64 k0, .slice B1 m1 e1, .slice B2' m2 e2] 25))) := Lib.hid (((Bel.refl w3).alloc (Nat.le_refl _) _).alloc (by simp) _)
  obtain ⟨w4, hW⟩ : ∃ Y, (w3.alloc (.cells #[.int .i64 srs, .bool o, .bool B, .bool b.no, .bool X.no, .int .i64 X.lx, .int .i64 X.ly, .int .i64 X.hx, .int .i64 X.hy] 69)).alloc (.cells #[.int .i64 k0, .slice B1 m1 e1, .slice B2' m2 e2] 25) = Y := ⟨_, rfl⟩
  rw [hW] at XD XS HB4 ⊢
  clear hW
  obtain ⟨gd, hgd⟩ : ∃ x, w3.heap.size = x := ⟨_, rfl⟩
  rw [hgd] at XD XS ⊢
  obtain ⟨gx, hgx⟩ : ∃ x, gd + 1 = x := ⟨_, rfl⟩
  rw [hgx] at XS ⊢
  clear hgd hgx
  have HXD := Lib.hid XD
  have HXS := Lib.hid XS
  have B4 := Lib.hid (bthen B2.out (bthen b3.out HB4.out))
  have B24 := Lib.hid (bthen b3.out HB4.out)
  have HM4 : Hid (∃ dd, ShB w4.heap.size w4 dd (.int .i64 k0, .slice B1 m1 e1, .slice B2' m2 e2) s) := Lib.hid (by
    obtain ⟨dd, hm⟩ := Kd.M_below (d := KW) hM.out HB4.out
    exact ⟨dd, MW.shB (c := (.int .i64 k0, .slice B1 m1 e1, .slice B2' m2 e2)) hm⟩)
  clear XD XS hM b3 HB4 HOP2
  have hwt : IntKind.u64.wrap (t : Int) = t := by rw [IntKind.wrap_u64]; have := HLEN.out.2; omega
  obtain ⟨m, hm⟩ : ∃ m : Nat, (m : Int) = n % t := ⟨(n % t).toNat, by have := Int.emod_nonneg n (show (t : Int) ≠ 0 by have := HLEN.out.1; omega); omega⟩
  have HM : Hid (m < t) := Lib.hid (by have := Int.emod_lt_of_pos n (show (0 : Int) < t by have := HLEN.out.1; omega); omega)
  have hmod : n.tmod t = m := by rw [hm]; exact Int.tmod_eq_emod_of_nonneg HNN.out.1
  have hwm : IntKind.u64.wrap (m : Int) = m := by rw [IntKind.wrap_u64]; have := HM.out; have := HLEN.out.2; omega
  have hwm2 : IntKind.i64.wrap (m : Int) = m := IntWalk.i64_in _ (by have := HM.out; have := HLEN.out.2; omega)
  have htnz : ¬ (t : Int) = 0 := by have := HLEN.out.1; omega
  have htnz2 : ¬ t = 0 := by have := HLEN.out.1; omega
  have hmc : m ≤ cap := by have := HM.out; have := HCAP.out; omega
  clear hm
  have HC4 := Lib.hid (HC.out.below B24.out)
  have HCUT : Hid (∃ e5, e5 ≠ 0 ∧ Calls Tryd.prog 46 #[.slice A m cap] w4 fun ex w' => ex = .returned (.tuple #[.agg #[.int .i64 0, .bool false, .bool false, .bool false, .bool false, .int .i64 0, .int .i64 0, .int .i64 0, .int .i64 0], .agg #[.int .i64 0, .slice none 0 0, .slice none 0 0], .int .i64 e5]) ∧ Bel w4 w') := Lib.hid (by
    obtain ⟨e5, h5, ho⟩ := HC1.out m HM.out
    refine ⟨e5, h5, ?_⟩
    have hl : (T.take m).length = m := by rw [List.length_take, HT.out]; have := HM.out; omega
    have := open_none w4 A cap (T.take m) (HC4.out.take m (by rw [HT.out]; have := HM.out; omega)) (by rw [hl]; exact hmc) (bytesOk_take HBY.out m) (by rw [hl]; have := HM.out; have := HLEN.out.2; omega) (HGL.out.below B4.out HGL.out.2.2) ho
    rw [hl] at this
    exact this)
  obtain ⟨e5, hne5, hdec⟩ := HCUT.out
  have HOP5 := Lib.hid hdec
  have HNE5 := Lib.hid hne5
  clear HCUT hdec hne5
  go_upto_region 6 with (go_at_call 46; refine (HOP5.out).mono ?_; rintro e w5 ⟨rfl, b5⟩)
  clear hwt hmod hwm hwm2 htnz htnz2 hmc
  have HB6 : Hid (Bel w4 ((w5.alloc (.cells #[.int .i64 0, .bool false, .bool false, .bool false, .bool false, .int .i64 0, .int .i64 0, .int .i64 0, .int .i64 0] 69)).alloc (.cells #[.int .i64 0, .slice none 0 0, .slice none 0 0] 25))) := Lib.hid (bthen b5 (((Bel.refl w5).alloc (Nat.le_refl _) _).alloc (by simp) _))
  obtain ⟨w6, hW⟩ : ∃ Y, (w5.alloc (.cells #[.int .i64 0, .bool false, .bool false, .bool false, .bool false, .int .i64 0, .int .i64 0, .int .i64 0, .int .i64 0] 69)).alloc (.cells #[.int .i64 0, .slice none 0 0, .slice none 0 0] 25) = Y := ⟨_, rfl⟩
  rw [hW] at HB6 ⊢
  clear hW b5
  have B6 := Lib.hid (bthen B4.out HB6.out)
  have HC6 := Lib.hid (HC4.out.below HB6.out)
  obtain ⟨x, hx8⟩ : ∃ x, IntKind.u8.wrap n = x := ⟨_, rfl⟩
  have HX : Hid (0 ≤ x ∧ x < 256) := Lib.hid (by rw [IntKind.wrap_u8] at hx8; omega)
  obtain ⟨e6, hne6, hmore⟩ := HC2.out x
  have HNE6 := Lib.hid hne6
  have HMO := Lib.hid hmore
  clear hne6 hmore
  go_upto_region 7 with (first
    | (at_builtin; refine app1 (w0 := w6) (.tmp 67) (.tmp 70) rfl rfl v7 ([] ++ T) x rfl rfl h7.out hb7.out (by rw [List.nil_append, HT.out]; have := HLEN.out.2; omega) ?_
       intro v8 w8 h8 hb8
       obtain ⟨A8, c8, hv8, hc8, hC8⟩ := h8.out.reads
       obtain ⟨n8, hn8⟩ : ∃ n, ([] ++ T ++ [x]).length = n := ⟨_, rfl⟩
       rw [hn8] at hv8
       subst hv8
       have HOP8 : Hid (Calls Tryd.prog 46 #[.slice A8 n8 c8] w8 fun ex w' => ex = .returned (.tuple #[.agg #[.int .i64 0, .bool false, .bool false, .bool false, .bool false, .int .i64 0, .int .i64 0, .int .i64 0, .int .i64 0], .agg #[.int .i64 0, .slice none 0 0, .slice none 0 0], .int .i64 e6]) ∧ Bel w8 w') := Lib.hid (by
         have := open_none w8 A8 c8 ([] ++ T ++ [x]) hC8 hc8 (by rw [List.nil_append]; exact bytesOk_append HBY.out (fun y hy => by rw [List.mem_singleton] at hy; rw [hy]; exact HX.out)) (by rw [List.nil_append, List.length_append, HT.out]; have := HLEN.out.2; simp; omega) (HGL.out.below (bthen B6.out hb8.out) HGL.out.2.2) (by rw [List.nil_append]; exact HMO.out)
         rw [hn8] at this
         exact this)
       clear hc8 hC8 h8 hn8)
    | (at_builtin; refine appN (w0 := w6) (.tmp 65) (.tmp 66) rfl rfl (.slice (some ⟨w6.heap.size, 0, none⟩) 0 0) [] T A cap rfl (by rw [HT.out]; rfl) (RB.lit0 (Nat.le_refl _)) (HC6.out.alloc _) ((Below.refl _ w6).alloc (Nat.le_refl _) _) (by rw [HT.out]; have := HLEN.out.2; simp; omega) ?_
       intro v7 w7 h7 hb7)
    | (go_at_call 46; refine (HOP8.out).mono ?_; rintro e w9 ⟨rfl, b9⟩))
  have HB10 : Hid (Bel w4 ((w9.alloc (.cells #[.int .i64 0, .bool false, .bool false, .bool false, .bool false, .int .i64 0, .int .i64 0, .int .i64 0, .int .i64 0] 69)).alloc (.cells #[.int .i64 0, .slice none 0 0, .slice none 0 0] 25))) := Lib.hid (bthen HB6.out (bthen hb8.out (bthen b9 (((Bel.refl w9).alloc (Nat.le_refl _) _).alloc (by simp) _))))
  obtain ⟨w10, hW⟩ : ∃ Y, (w9.alloc (.cells #[.int .i64 0, .bool false, .bool false, .bool false, .bool false, .int .i64 0, .int .i64 0, .int .i64 0, .int .i64 0] 69)).alloc (.cells #[.int .i64 0, .slice none 0 0, .slice none 0 0] 25) = Y := ⟨_, rfl⟩
  rw [hW] at HB10 ⊢
  clear hW b9 hb8 hx8
  have B10 := Lib.hid (bthen B4.out HB10.out)
  have HS10 := Lib.hid (Blk.bel HS2.out (bthen B24.out HB10.out))
  have HH10 := Lib.hid (Blk.bel HH2.out (bthen B24.out HB10.out))
  have HXD10 := Lib.hid (Blk.bel HXD.out HB10.out)
  have HXS10 := Lib.hid (Blk.bel HXS.out HB10.out)
  have HEQ : Hid (Calls Tryd.prog 31 #[.agg #[.int .i64 kd, .slice u1 u2 u3, .slice u4 u5 u6], .agg #[.int .i64 k0, .slice B1 m1 e1, .slice B2' m2 e2]] w10 fun e w' => e = .returned (.bool true) ∧ Bel w10 w') := Lib.hid (by
    obtain ⟨dd, hsh⟩ := HM4.out
    have := rEqual_calls D dd s s (.int .i64 kd, .slice u1 u2 u3, .slice u4 u5 u6) (.int .i64 k0, .slice B1 m1 e1, .slice B2' m2 e2) w10 w10.heap.size (Nat.le_refl _) ((HS.out.keep (KeepB.bel B10.out)).mono B10.out.size) ((hsh.keep (KeepB.bel HB10.out)).mono HB10.out.size)
    rw [MShape.eqS_refl] at this
    exact this)
  obtain ⟨s0, s1, s2⟩ := Blk.cells3 HS10.out
  obtain ⟨x0, x1, x2⟩ := Blk.cells3 HXS10.out
  have hz5 : (e5 == 0) = false := by simpa using HNE5.out
  have hz6 : (e6 == 0) = false := by simpa using HNE6.out
  go_upto_region 9 with (go_at_call 31; refine (HEQ.out).mono ?_; rintro e w11 ⟨rfl, b11⟩; have B11 := Lib.hid b11; clear b11)
  clear s0 s1 s2 x0 x1 x2 hz5 hz6
  obtain ⟨s0, s1, s2⟩ := Blk.cells3 (Blk.bel HS10.out B11.out)
  go_upto_region 10 with (go_at_call 47; refine (HRF1.out _ (bthen B10.out B11.out)).mono ?_; rintro e w12 ⟨rfl, b12⟩)
  have HA := Blk.new w12 #[.bool b.no, .int .i64 b.lx, .int .i64 b.ly, .int .i64 b.hx, .int .i64 b.hy] 67
  have HB13 : Hid (Bel w10 (w12.alloc (.cells #[.bool b.no, .int .i64 b.lx, .int .i64 b.ly, .int .i64 b.hx, .int .i64 b.hy] 67))) := Lib.hid (bthen B11.out (bthen b12 ((Bel.refl w12).alloc (Nat.le_refl _) _)))
  obtain ⟨w13, hW⟩ : ∃ Y, w12.alloc (.cells #[.bool b.no, .int .i64 b.lx, .int .i64 b.ly, .int .i64 b.hx, .int .i64 b.hy] 67) = Y := ⟨_, rfl⟩
  rw [hW] at HA HB13 ⊢
  clear hW b12 s0 s1 s2
  obtain ⟨ga, hga⟩ : ∃ x, w12.heap.size = x := ⟨_, rfl⟩
  rw [hga] at HA ⊢
  clear hga
  have B13 := Lib.hid (bthen B10.out HB13.out)
  obtain ⟨h0, h1, h2⟩ := Blk.cells3 (Blk.bel HH10.out HB13.out)
  obtain ⟨d0, d1, d2, d3, d4, d5, d6, d7, d8⟩ := Blk.cells9 (Blk.bel HXD10.out HB13.out)
  obtain ⟨a0, a1, a2, a3, a4⟩ := Blk.cells5 HA
  clear HA
  have hsr : (srs == srs) = true := by simp
  have hoo : (o == o) = true := by simp
  have hbb : (b.no == b.no) = true := by simp
  cases bx with
  | false =>
    obtain rfl : B = false := by rw [← HBB.out]; rfl
    go_wp2_with (go_at_call 40; refine (HLV.out _ B13.out).mono ?_; rintro e w14 ⟨rfl, b14⟩; have B14 := Lib.hid b14; clear b14)
    go_ret
    exact ⟨by first | rfl | simp, bthen B13.out B14.out⟩
  | true =>
    cases hbn : b.no with
    | true =>
      obtain rfl : B = false := by rw [← HBB.out, hbn]; rfl
      rw [hbn] at d3 a0 hbb
      clear hbn
      go_wp2_with (go_at_call 40; refine (HLV.out _ B13.out).mono ?_; rintro e w14 ⟨rfl, b14⟩; have B14 := Lib.hid b14; clear b14)
      go_ret
      exact ⟨by first | rfl | simp, bthen B13.out B14.out⟩
    | false =>
      obtain rfl : B = true := by rw [← HBB.out, hbn]; rfl
      have HEB : Hid (∀ W, (binOp .eql 67 (.agg #[.bool b.no, .int .i64 b.lx, .int .i64 b.ly, .int .i64 b.hx, .int .i64 b.hy]) (.agg #[.bool b.no, .int .i64 b.lx, .int .i64 b.ly, .int .i64 b.hx, .int .i64 b.hy])).run Tryd.prog W = .ok (.bool true) W) := Lib.hid (fun W => by have := eqB b b W; rw [MBox.same_refl] at this; exact this)
      obtain rfl : b = X := by have := HXB.out; rw [if_pos rfl] at this; exact this
      have heb := HEB.out
      rw [hbn] at d3 d4 a0 hbb heb
      clear hbn HEB
      go_wp2_with (go_at_call 40; refine (HLV.out _ B13.out).mono ?_; rintro e w14 ⟨rfl, b14⟩; have B14 := Lib.hid b14; clear b14)
      go_ret
      exact ⟨by first | rfl | simp, bthen B13.out B14.out⟩
theorem bback_calls (D : Nat) (s : Sh) (c : Value × Value × Value) (srs : Int) (o bx : Bool) (n : Int) (w : World) (hn : 0 ≤ n ∧ n < 18446744073709551616) (hw2 : 2 ≤ w.heap.size) (hs : ShB w.heap.size w D c s) (hok : shOk s) (hF : FormsAt w) (hN : NowAt w) :
    Calls Tryd.prog 12 #[.agg #[c.1, c.2.1, c.2.2], .agg #[.int .i64 srs, .bool o, .bool bx], .int .u64 n] w fun e w' => e = .returned (.bool true) ∧ Bel w w' := by
  by_cases hck : MShape.check s = 0
  · by_cases h1 : srs < -2147483648
    · exact bback_no2 D s c srs o bx n w hn hw2 hs hok hF hN hck h1
    by_cases h2 : 2147483647 < srs
    · exact bback_no3 D s c srs o bx n w hn hw2 hs hok hF hN hck h2
    exact bback_yes D s c srs o bx n w hn hw2 hs hok hF hN hck (by unfold srsOk; simp only [Bool.and_eq_true, decide_eq_true_eq]; omega)
  · exact bback_no1 D s c srs o bx n w hn hw2 hs hok hF hN hck
theorem BlobBack_calls {w : World} (cs : Array Value) (s : Sh) (hK : KSh.K w s cs.toList) (hq : shOk s) (cs' : Array Value) (x : Int × Bool × Bool) (hK' : (Kd.pair (Kd.int .i64) (Kd.pair Kd.bool Kd.bool)).K w x cs'.toList) (n : Int) (hn : (Lit.int .u64 n).wf = true) (hw2 : 2 ≤ w.heap.size) (hF : FormsAt w) (hN : NowAt w) :
    Calls Tryd.prog 12 #[.agg cs, .agg cs', .int .u64 n] w fun e w' => e = .returned (.bool true) ∧ Below w.heap.size w w' := by
  obtain ⟨d, c, hc, hs⟩ := hK
  obtain ⟨c0, c1, e, h0, c2, c3, e2, h1, h2⟩ := hK'
  obtain rfl : c0 = [.int .i64 x.1] := h0
  obtain rfl : c2 = [.bool x.2.1] := h1
  obtain rfl : c3 = [.bool x.2.2] := h2
  subst e2
  obtain ⟨l⟩ := cs
  obtain ⟨l'⟩ := cs'
  simp at hc e
  subst hc e
  have hn2 : 0 ≤ n ∧ n < 18446744073709551616 := by
    simp only [Lit.wf, IntKind.min, IntKind.max, IntKind.signed, IntKind.bits, Bool.and_eq_true, decide_eq_true_eq, if_true] at hn
    simp at hn
    omega
  exact bback_calls d s c x.1 x.2.1 x.2.2 n w hn2 hw2 hs hq hF hN
end Go.Proofs.YtfknhpgelleenaaDoor.K
end
