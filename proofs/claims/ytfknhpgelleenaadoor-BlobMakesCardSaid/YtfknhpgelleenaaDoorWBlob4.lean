/- The reference's Make of blobs. -/
import Derived.Test.YtfknhpgelleenaaDoorKB
import Derived.Handy
import Derived.Test.YtfknhpgelleenaaDoorKM
import Derived.Test.YtfknhpgelleenaaDoorMWkb
import Derived.Test.YtfknhpgelleenaaDoorWBox10
import Derived.Test.YtfknhpgelleenaaDoorWBlob3
namespace Go.Proofs.YtfknhpgelleenaaDoor.K
open Go Go.RowKit Go.Proofs.YtfknhpgelleenaaDoorW.PrintWords Go.Proofs.YtfknhpgelleenaaDoorW.PrintLast Go.Proofs.YtfknhpgelleenaaDoorW.PrintMore
set_option linter.unusedVariables false
set_option linter.unusedSimpArgs false
open Go.Proofs.YtfknhpgelleenaaDoor.MShape (Sh flats)
open Go.Proofs.YtfknhpgelleenaaDoor.MBox (Bx)
set_option maxHeartbeats 8000000 in
set_option maxRecDepth 100000 in
theorem rmake_calls (D : Nat) (s : Sh) (c : Value × Value × Value) (srs : Int) (o bx : Bool) (w : World) (B : Nat) (hB : B ≤ w.heap.size) (hs : ShB B w D c s) :
    Calls Tryd.prog 41 #[.agg #[c.1, c.2.1, c.2.2], .int .i64 srs, .bool o, .bool bx] w fun e w' => ∃ v, e = .returned v ∧ Hid (RB w w' v (blobB o bx srs s)) ∧ Hid (Bel w w') := by
  have HCK := Lib.hid (fun W h1 h2 => rcheck_calls D s c W B h1 h2)
  have HE := Lib.hid (fun W h1 h2 => rencode_calls D s c o W B h1 h2)
  have HBO := Lib.hid (fun W h1 h2 h3 => refOf_calls D s c W B h1 h2 h3)
  have HS := Lib.hid hs
  obtain ⟨kd, u1, u2, u3, u4, u5, u6, rfl⟩ := hs.forms
  dsimp only at HCK HE HBO HS ⊢
  have HBB := Lib.hid hB
  clear hs hB
  have S := Blk.new w #[.int .i64 kd, .slice u1 u2 u3, .slice u4 u5 u6] 25
  have HB : Hid (Bel w (w.alloc (.cells #[.int .i64 kd, .slice u1 u2 u3, .slice u4 u5 u6] 25))) := Lib.hid ((Bel.refl w).alloc (Nat.le_refl _) _)
  go_enter Tryd.func41, Tryd.ntmps41
  go_upto_region 1 with (fail)
  obtain ⟨W1, hW⟩ : ∃ X, w.alloc (.cells #[.int .i64 kd, .slice u1 u2 u3, .slice u4 u5 u6] 25) = X := ⟨_, rfl⟩
  rw [hW] at S HB ⊢
  obtain ⟨gs, hg⟩ : ∃ X, w.heap.size = X := ⟨_, rfl⟩
  have HGS := Lib.hid hg
  rw [hg] at S ⊢
  clear hW hg
  obtain ⟨s0, s1, s2⟩ := Blk.cells3 S
  have HSB := Lib.hid S
  clear S
  have HC1 := Lib.hid (HCK.out W1 (by have := HB.out.size; have := HBB.out; omega) (HS.out.keep (KeepB.bel HB.out)))
  obtain ⟨ck, hck⟩ : ∃ k, MShape.check s = k := ⟨_, rfl⟩
  have HCE := Lib.hid hck
  rw [hck] at HC1
  clear hck HCK
  have HIS : Hid (∀ W', Calls Tryd.prog 69 #[.int .i64 srs] W' fun e w' => e = .returned (.bool (srsOk srs)) ∧ W' = w') := Lib.hid (fun W' => (rsrs_calls srs W').mono fun e w' h => ⟨h.1, h.2.symm⟩)
  obtain ⟨so, hso⟩ : ∃ b, srsOk srs = b := ⟨_, rfl⟩
  have HSO := Lib.hid hso
  rw [hso] at HIS
  clear hso
  by_cases hz : ck = 0
  case neg =>
    have hz1 : (ck == 0) = false := by simpa using hz
    have hz2 : (ck != 0) = true := by simpa using hz
    go_wp2_with (go_at_call 42; refine (HC1.out).mono ?_; rintro e W2 ⟨rfl, hb2⟩)
    go_ret
    exact ⟨_, rfl, by unfold blobB; rw [if_neg (by rw [HCE.out]; exact fun h => hz h.1)]; exact RB.nil _ _, bthen HB.out hb2⟩
  subst hz
  cases so
  · go_wp2_with (first
      | (go_at_call 69; refine (HIS.out _).mono ?_; rintro e w' ⟨rfl, rfl⟩)
      | (go_at_call 42; refine (HC1.out).mono ?_; rintro e W2 ⟨rfl, hb2⟩))
    go_ret
    exact ⟨_, rfl, by unfold blobB; rw [if_neg (by rw [HSO.out]; exact fun h => by cases h.2)]; exact RB.nil _ _, bthen HB.out hb2⟩
  go_upto_region 3 with (first
      | (go_at_call 69; refine (HIS.out _).mono ?_; rintro e w' ⟨rfl, rfl⟩)
      | (go_at_call 42; refine (HC1.out).mono ?_; rintro e W2 ⟨rfl, hb2⟩))
  have HB2 := Lib.hid (bthen HB.out hb2)
  have HSB2 := Lib.hid (Blk.bel HSB.out hb2)
  clear s0 s1 s2 hb2 HC1 HSB
  obtain ⟨s0, s1, s2⟩ := Blk.cells3 HSB2.out
  have HLI := Lib.hid (MShape.light_is (check_light HCE.out))
  have HEL := Lib.hid (MWkb.enc_len o s)
  have HC3 := Lib.hid (HBO.out W2 (by have := HB2.out.size; have := HBB.out; omega) (HS.out.keep (KeepB.bel HB2.out)) (by have := HLI.out; omega))
  obtain ⟨b, hb⟩ : ∃ b, boxOf s.flat = b := ⟨_, rfl⟩
  rw [hb] at HC3
  have hbl : blobB o bx srs s = blobL o bx srs s b := by unfold blobB; rw [if_pos ⟨HCE.out, HSO.out⟩, hb]
  have HBL := Lib.hid hbl
  clear hb hbl
  go_upto_region 4 with (go_at_call 47; refine (HC3.out).mono ?_; rintro e W3 ⟨rfl, hb3⟩)
  have HB3 := Lib.hid (bthen HB2.out hb3)
  obtain ⟨bn, hbn⟩ : ∃ t, b.no = t := ⟨_, rfl⟩
  obtain ⟨lx, hlx⟩ : ∃ t, b.lx = t := ⟨_, rfl⟩
  obtain ⟨ly, hly⟩ : ∃ t, b.ly = t := ⟨_, rfl⟩
  obtain ⟨hx, hhx⟩ : ∃ t, b.hx = t := ⟨_, rfl⟩
  obtain ⟨hy, hhy⟩ : ∃ t, b.hy = t := ⟨_, rfl⟩
  rw [hbn, hlx, hly, hhx, hhy]
  have HBN := Lib.hid hbn
  have H1 := Lib.hid hlx
  have H2 := Lib.hid hly
  have H3 := Lib.hid hhx
  have H4 := Lib.hid hhy
  have S3 := (Blk.bel HSB2.out hb3).alloc (.cells #[.bool bn, .int .i64 lx, .int .i64 ly, .int .i64 hx, .int .i64 hy] 67)
  have X3 := Blk.new W3 #[.bool bn, .int .i64 lx, .int .i64 ly, .int .i64 hx, .int .i64 hy] 67
  have HB4 := Lib.hid (HB3.out.alloc HB3.out.size (.cells #[.bool bn, .int .i64 lx, .int .i64 ly, .int .i64 hx, .int .i64 hy] 67))
  obtain ⟨W4, hW⟩ : ∃ X, W3.alloc (.cells #[.bool bn, .int .i64 lx, .int .i64 ly, .int .i64 hx, .int .i64 hy] 67) = X := ⟨_, rfl⟩
  rw [hW] at S3 X3 HB4 ⊢
  obtain ⟨gx, hg⟩ : ∃ X, W3.heap.size = X := ⟨_, rfl⟩
  rw [hg] at X3 ⊢
  clear hW hg s0 s1 s2 hb3 HC3 hbn hlx hly hhx hhy
  have HS4 := Lib.hid S3
  have HX4 := Lib.hid X3
  obtain ⟨x0, x1, x2, x3, x4⟩ := Blk.cells5 X3
  clear S3 X3
  have HI := Lib.hid (fun W' => idx4 lx hx ly hy W')
  have hcK : corn o b = MWkb.nm lx 8 o ++ MWkb.nm hx 8 o ++ MWkb.nm ly 8 o ++ MWkb.nm hy 8 o := by unfold corn; rw [H1.out, H2.out, H3.out, H4.out]; simp
  have HCO := Lib.hid hcK
  clear hcK
  cases o <;> cases bx <;> cases bn
  · have HRL : Hid (RB w (W4.alloc (.cells #[.int .u8 71, .int .u8 80, .int .u8 0, .int .u8 0] 5)) (.slice (some ⟨W4.heap.size, 0, none⟩) 4 4) [71, 80, 0, 0]) := Lib.hid (RB.lit [71, 80, 0, 0] HB4.out.size (by simp [maxLen]))
    have HBa : Hid (Bel W4 (W4.alloc (.cells #[.int .u8 71, .int .u8 80, .int .u8 0, .int .u8 0] 5))) := Lib.hid ((Bel.refl W4).alloc (Nat.le_refl _) _)
    have HPU := Lib.hid (ref02_Put_calls (some ⟨W4.heap.size, 0, none⟩) 4 [71, 80, 0, 0] (MWkb.u64 srs) 4 false _ (Kd.R_reads' HRL.out).2.2 (by simp) (by simp) (MWkb.u64_in _).1 (MWkb.u64_in _).2)
    have hu := u64w srs
    have q1 : Go.bits .or .u8 0 1 = 1 := by rfl
    have q2 : Go.bits .or .u8 0 2 = 2 := by rfl
    have q3 : Go.bits .or .u8 1 2 = 3 := by rfl
    have q4 : Go.bits .or .u8 0 16 = 16 := by rfl
    have q5 : Go.bits .or .u8 1 16 = 17 := by rfl
    go_upto_region 12 with (go_at_call 70; refine (HPU.out).mono ?_; rintro e w5 ⟨v5, rfl, hr5, hb5⟩)
    clear hu q1 q2 q3 q4 q5
    have HB5 := Lib.hid (bthen HB4.out (bthen HBa.out hb5))
    obtain ⟨L0, hL0⟩ : ∃ l, [71, 80, 0, 0] ++ MWkb.nm srs 4 false = l := ⟨_, rfl⟩
    have HL0 : Hid (L0.length = 8) := Lib.hid (by rw [← hL0, List.length_append, MWkb.nm4]; rfl)
    have HR5 : Hid (RB w w5 v5 L0) := Lib.hid (by rw [← hL0]; exact hr5.lower (bthen HB4.out HBa.out).size)
    have HL0E := Lib.hid hL0
    have HS5 := Lib.hid (Blk.bel HS4.out (bthen HBa.out hb5))
    have HX5 := Lib.hid (Blk.bel HX4.out (bthen HBa.out hb5))
    clear hL0 hr5 hb5 HPU HRL x0 x1 x2 x3 x4
    obtain ⟨x0, x1, x2, x3, x4⟩ := Blk.cells5 HX5.out
    obtain ⟨s0, s1, s2⟩ := Blk.cells3 HS5.out
    obtain ⟨L2, hL2⟩ : ∃ l, MWkb.enc false s = l := ⟨_, rfl⟩
    have HL2 := Lib.hid hL2
    have HLW : Hid (L2.length < 1000000) := Lib.hid (by have := HEL.out; have := HLI.out; rw [hL2] at *; omega)
    clear hL2
    obtain ⟨A9, n9, c9, hv5⟩ := RB.sl HR5.out
    subst hv5
    have hbits : Go.bits .and .u8 0 2 = 0 := by rfl
    have HBZ := HB5
    have HRZ := HR5
    obtain ⟨LL, hLL⟩ : ∃ l, L0 = l := ⟨_, rfl⟩
    have HLE := Lib.hid hLL
    have HLZ : Hid (LL.length + L2.length < 140737488355328) := Lib.hid (by rw [← hLL]; have := HL0.out; have := HLW.out; omega)
    rw [hLL] at HRZ
    clear hLL
    · have HEN : Hid (Calls Tryd.prog 38 #[.agg #[.int .i64 kd, .slice u1 u2 u3, .slice u4 u5 u6], .bool false] w5 fun e w' => ∃ v, e = .returned v ∧ Hid (RB w5 w' v L2) ∧ Hid (Bel w5 w')) := Lib.hid (by
        have h9 := HE.out w5 (by have := HBZ.out.size; have := HBB.out; omega) (HS.out.keep (KeepB.bel HBZ.out))
        have h10 : encB false s = L2 := by unfold encB; rw [if_pos HCE.out, HL2.out]
        rw [h10] at h9
        exact h9)
      go_wp2_with (first
        | (at_builtin; refine appNg (w0 := w) (.tmp 65) (.tmp 68) rfl rfl (.slice A9 n9 c9) LL L2 A8 c8 rfl rfl HR8.out HC8.out HB8.out HLZ.out ?_; intro v9 w9 HR9 HB9 HG9)
        | (go_at_call 38; refine (HEN.out).mono ?_; rintro e w8 ⟨v8, rfl, hr8, hb8⟩; obtain ⟨A8, c8, hv8, hc8, hC8⟩ := hr8.out.reads; subst hv8; have HC8 := Lib.hid hC8; have HR8 := Lib.hid (HRZ.out.below hb8.out); have HB8 := Lib.hid (bthen HBZ.out hb8.out)))
      go_ret
      exact ⟨_, rfl, by
        have h10 : blobL false false srs s b = LL ++ L2 := by rw [← HLE.out, ← HL2.out, ← HL0E.out]; unfold blobL; rw [HBN.out]; simp [flagsV]
        rw [HBL.out, h10]
        exact HR9.out, HB9.out⟩
  · have HRL : Hid (RB w (W4.alloc (.cells #[.int .u8 71, .int .u8 80, .int .u8 0, .int .u8 16] 5)) (.slice (some ⟨W4.heap.size, 0, none⟩) 4 4) [71, 80, 0, 16]) := Lib.hid (RB.lit [71, 80, 0, 16] HB4.out.size (by simp [maxLen]))
    have HBa : Hid (Bel W4 (W4.alloc (.cells #[.int .u8 71, .int .u8 80, .int .u8 0, .int .u8 16] 5))) := Lib.hid ((Bel.refl W4).alloc (Nat.le_refl _) _)
    have HPU := Lib.hid (ref02_Put_calls (some ⟨W4.heap.size, 0, none⟩) 4 [71, 80, 0, 16] (MWkb.u64 srs) 4 false _ (Kd.R_reads' HRL.out).2.2 (by simp) (by simp) (MWkb.u64_in _).1 (MWkb.u64_in _).2)
    have hu := u64w srs
    have q1 : Go.bits .or .u8 0 1 = 1 := by rfl
    have q2 : Go.bits .or .u8 0 2 = 2 := by rfl
    have q3 : Go.bits .or .u8 1 2 = 3 := by rfl
    have q4 : Go.bits .or .u8 0 16 = 16 := by rfl
    have q5 : Go.bits .or .u8 1 16 = 17 := by rfl
    go_upto_region 12 with (go_at_call 70; refine (HPU.out).mono ?_; rintro e w5 ⟨v5, rfl, hr5, hb5⟩)
    clear hu q1 q2 q3 q4 q5
    have HB5 := Lib.hid (bthen HB4.out (bthen HBa.out hb5))
    obtain ⟨L0, hL0⟩ : ∃ l, [71, 80, 0, 16] ++ MWkb.nm srs 4 false = l := ⟨_, rfl⟩
    have HL0 : Hid (L0.length = 8) := Lib.hid (by rw [← hL0, List.length_append, MWkb.nm4]; rfl)
    have HR5 : Hid (RB w w5 v5 L0) := Lib.hid (by rw [← hL0]; exact hr5.lower (bthen HB4.out HBa.out).size)
    have HL0E := Lib.hid hL0
    have HS5 := Lib.hid (Blk.bel HS4.out (bthen HBa.out hb5))
    have HX5 := Lib.hid (Blk.bel HX4.out (bthen HBa.out hb5))
    clear hL0 hr5 hb5 HPU HRL x0 x1 x2 x3 x4
    obtain ⟨x0, x1, x2, x3, x4⟩ := Blk.cells5 HX5.out
    obtain ⟨s0, s1, s2⟩ := Blk.cells3 HS5.out
    obtain ⟨L2, hL2⟩ : ∃ l, MWkb.enc false s = l := ⟨_, rfl⟩
    have HL2 := Lib.hid hL2
    have HLW : Hid (L2.length < 1000000) := Lib.hid (by have := HEL.out; have := HLI.out; rw [hL2] at *; omega)
    clear hL2
    obtain ⟨A9, n9, c9, hv5⟩ := RB.sl HR5.out
    subst hv5
    have hbits : Go.bits .and .u8 16 2 = 0 := by rfl
    have HBZ := HB5
    have HRZ := HR5
    obtain ⟨LL, hLL⟩ : ∃ l, L0 = l := ⟨_, rfl⟩
    have HLE := Lib.hid hLL
    have HLZ : Hid (LL.length + L2.length < 140737488355328) := Lib.hid (by rw [← hLL]; have := HL0.out; have := HLW.out; omega)
    rw [hLL] at HRZ
    clear hLL
    · have HEN : Hid (Calls Tryd.prog 38 #[.agg #[.int .i64 kd, .slice u1 u2 u3, .slice u4 u5 u6], .bool false] w5 fun e w' => ∃ v, e = .returned v ∧ Hid (RB w5 w' v L2) ∧ Hid (Bel w5 w')) := Lib.hid (by
        have h9 := HE.out w5 (by have := HBZ.out.size; have := HBB.out; omega) (HS.out.keep (KeepB.bel HBZ.out))
        have h10 : encB false s = L2 := by unfold encB; rw [if_pos HCE.out, HL2.out]
        rw [h10] at h9
        exact h9)
      go_wp2_with (first
        | (at_builtin; refine appNg (w0 := w) (.tmp 65) (.tmp 68) rfl rfl (.slice A9 n9 c9) LL L2 A8 c8 rfl rfl HR8.out HC8.out HB8.out HLZ.out ?_; intro v9 w9 HR9 HB9 HG9)
        | (go_at_call 38; refine (HEN.out).mono ?_; rintro e w8 ⟨v8, rfl, hr8, hb8⟩; obtain ⟨A8, c8, hv8, hc8, hC8⟩ := hr8.out.reads; subst hv8; have HC8 := Lib.hid hC8; have HR8 := Lib.hid (HRZ.out.below hb8.out); have HB8 := Lib.hid (bthen HBZ.out hb8.out)))
      go_ret
      exact ⟨_, rfl, by
        have h10 : blobL false false srs s b = LL ++ L2 := by rw [← HLE.out, ← HL2.out, ← HL0E.out]; unfold blobL; rw [HBN.out]; simp [flagsV]
        rw [HBL.out, h10]
        exact HR9.out, HB9.out⟩
  · have HRL : Hid (RB w (W4.alloc (.cells #[.int .u8 71, .int .u8 80, .int .u8 0, .int .u8 2] 5)) (.slice (some ⟨W4.heap.size, 0, none⟩) 4 4) [71, 80, 0, 2]) := Lib.hid (RB.lit [71, 80, 0, 2] HB4.out.size (by simp [maxLen]))
    have HBa : Hid (Bel W4 (W4.alloc (.cells #[.int .u8 71, .int .u8 80, .int .u8 0, .int .u8 2] 5))) := Lib.hid ((Bel.refl W4).alloc (Nat.le_refl _) _)
    have HPU := Lib.hid (ref02_Put_calls (some ⟨W4.heap.size, 0, none⟩) 4 [71, 80, 0, 2] (MWkb.u64 srs) 4 false _ (Kd.R_reads' HRL.out).2.2 (by simp) (by simp) (MWkb.u64_in _).1 (MWkb.u64_in _).2)
    have hu := u64w srs
    have q1 : Go.bits .or .u8 0 1 = 1 := by rfl
    have q2 : Go.bits .or .u8 0 2 = 2 := by rfl
    have q3 : Go.bits .or .u8 1 2 = 3 := by rfl
    have q4 : Go.bits .or .u8 0 16 = 16 := by rfl
    have q5 : Go.bits .or .u8 1 16 = 17 := by rfl
    go_upto_region 12 with (go_at_call 70; refine (HPU.out).mono ?_; rintro e w5 ⟨v5, rfl, hr5, hb5⟩)
    clear hu q1 q2 q3 q4 q5
    have HB5 := Lib.hid (bthen HB4.out (bthen HBa.out hb5))
    obtain ⟨L0, hL0⟩ : ∃ l, [71, 80, 0, 2] ++ MWkb.nm srs 4 false = l := ⟨_, rfl⟩
    have HL0 : Hid (L0.length = 8) := Lib.hid (by rw [← hL0, List.length_append, MWkb.nm4]; rfl)
    have HR5 : Hid (RB w w5 v5 L0) := Lib.hid (by rw [← hL0]; exact hr5.lower (bthen HB4.out HBa.out).size)
    have HL0E := Lib.hid hL0
    have HS5 := Lib.hid (Blk.bel HS4.out (bthen HBa.out hb5))
    have HX5 := Lib.hid (Blk.bel HX4.out (bthen HBa.out hb5))
    clear hL0 hr5 hb5 HPU HRL x0 x1 x2 x3 x4
    obtain ⟨x0, x1, x2, x3, x4⟩ := Blk.cells5 HX5.out
    obtain ⟨s0, s1, s2⟩ := Blk.cells3 HS5.out
    obtain ⟨L2, hL2⟩ : ∃ l, MWkb.enc false s = l := ⟨_, rfl⟩
    have HL2 := Lib.hid hL2
    have HLW : Hid (L2.length < 1000000) := Lib.hid (by have := HEL.out; have := HLI.out; rw [hL2] at *; omega)
    clear hL2
    obtain ⟨A5, n5, c5, hv5⟩ := RB.sl HR5.out
    subst hv5
    have hbits : Go.bits .and .u8 2 2 = 2 := by rfl
    go_wp2
    clear x0 x1 x2 x3 x4 s0 s1 s2 hbits
    go_loopw [11, 56] (fun ov i wr => ∃ k : Nat, i = .int .i64 k ∧ k ≤ 4 ∧ Hid (RB w wr ov (L0 ++ cornK false b k)) ∧ Hid (Bel w5 wr)) (fun _ i _ => 4 - (intOf i).toNat)
    case atStart => exact ⟨0, rfl, by omega, Lib.hid (by rw [show cornK false b 0 = [] from rfl, List.append_nil]; exact HR5.out), Lib.hid (Bel.refl w5)⟩
    case round =>
      obtain ⟨k, rfl, hk, HRk, HBk⟩ := hrel
      have hk : k = 0 ∨ k = 1 ∨ k = 2 ∨ k = 3 ∨ k = 4 := by omega
      have HLk : Hid ((L0 ++ cornK false b k).length ≤ 40) := Lib.hid (by rw [List.length_append, HL0.out]; rcases hk with rfl | rfl | rfl | rfl | rfl <;> simp [cornK, MWkb.nm8])
      obtain ⟨A9, c9, hv9, hc9, hC9⟩ := HRk.out.reads
      obtain ⟨n9, hn9⟩ : ∃ n, (L0 ++ cornK false b k).length = n := ⟨_, rfl⟩
      have HPU : Hid (∀ x, Calls Tryd.prog 70 #[.slice A9 n9 c9, .int .u64 (MWkb.u64 x), .int .i64 8, .bool false] wr fun e w' => ∃ v, e = .returned v ∧ RB wr w' v (L0 ++ cornK false b k ++ MWkb.nm x 8 false) ∧ Below wr.heap.size wr w') := Lib.hid (fun x => by
        have h9 := ref02_Put_calls A9 c9 (L0 ++ cornK false b k) (MWkb.u64 x) 8 false wr hC9 hc9 (by have := HLk.out; omega) (MWkb.u64_in _).1 (MWkb.u64_in _).2
        rw [hn9] at h9
        exact h9)
      have HC9 := Lib.hid hC9
      rw [hn9] at hv9
      clear hn9 hC9 hc9
      subst hv9
      rcases hk with rfl | rfl | rfl | rfl | rfl
      · have hi := fun W' => (HI.out W').1
        have hu := u64w lx
        go_wp2_with (go_at_call 70; refine (HPU.out lx).mono ?_; rintro e w7 ⟨v7, rfl, hr7, hb7⟩)
        go_roundw
        case rel => exact ⟨1, rfl, by omega, Lib.hid (by have h9 := hr7.lower (w0 := w) (bthen HB5.out HBk.out).size; rw [List.append_assoc, ← H1.out] at h9; rw [show cornK false b 0 = [] from rfl, List.nil_append] at h9; exact h9), Lib.hid (bthen HBk.out hb7)⟩
        case measure => (simp [intOf] <;> omega)
      · have hi := fun W' => (HI.out W').2.1
        have hu := u64w hx
        go_wp2_with (go_at_call 70; refine (HPU.out hx).mono ?_; rintro e w7 ⟨v7, rfl, hr7, hb7⟩)
        go_roundw
        case rel => exact ⟨2, rfl, by omega, Lib.hid (by have h9 := hr7.lower (w0 := w) (bthen HB5.out HBk.out).size; rw [List.append_assoc, ← H3.out] at h9; exact h9), Lib.hid (bthen HBk.out hb7)⟩
        case measure => (simp [intOf] <;> omega)
      · have hi := fun W' => (HI.out W').2.2.1
        have hu := u64w ly
        go_wp2_with (go_at_call 70; refine (HPU.out ly).mono ?_; rintro e w7 ⟨v7, rfl, hr7, hb7⟩)
        go_roundw
        case rel => exact ⟨3, rfl, by omega, Lib.hid (by have h9 := hr7.lower (w0 := w) (bthen HB5.out HBk.out).size; rw [List.append_assoc, ← H2.out] at h9; exact h9), Lib.hid (bthen HBk.out hb7)⟩
        case measure => (simp [intOf] <;> omega)
      · have hi := fun W' => (HI.out W').2.2.2
        have hu := u64w hy
        go_wp2_with (go_at_call 70; refine (HPU.out hy).mono ?_; rintro e w7 ⟨v7, rfl, hr7, hb7⟩)
        go_roundw
        case rel => exact ⟨4, rfl, by omega, Lib.hid (by have h9 := hr7.lower (w0 := w) (bthen HB5.out HBk.out).size; rw [List.append_assoc, ← H4.out] at h9; exact h9), Lib.hid (bthen HBk.out hb7)⟩
        case measure => (simp [intOf] <;> omega)
      · have HBZ := Lib.hid (bthen HB5.out HBk.out)
        have HRZ := HRk
        obtain ⟨LL, hLL⟩ : ∃ l, L0 ++ cornK false b 4 = l := ⟨_, rfl⟩
        have HLE := Lib.hid hLL
        have HLZ : Hid (LL.length + L2.length < 140737488355328) := Lib.hid (by rw [← hLL]; have := HLk.out; have := HLW.out; omega)
        rw [hLL] at HRZ
        obtain ⟨s0, s1, s2⟩ := Blk.cells3 (Blk.bel HS5.out HBk.out)
        clear hLL
        have HEN : Hid (Calls Tryd.prog 38 #[.agg #[.int .i64 kd, .slice u1 u2 u3, .slice u4 u5 u6], .bool false] wr fun e w' => ∃ v, e = .returned v ∧ Hid (RB wr w' v L2) ∧ Hid (Bel wr w')) := Lib.hid (by
          have h9 := HE.out wr (by have := HBZ.out.size; have := HBB.out; omega) (HS.out.keep (KeepB.bel HBZ.out))
          have h10 : encB false s = L2 := by unfold encB; rw [if_pos HCE.out, HL2.out]
          rw [h10] at h9
          exact h9)
        go_wp2_with (first
          | (at_builtin; refine appNg (w0 := w) (.tmp 65) (.tmp 68) rfl rfl (.slice A9 n9 c9) LL L2 A8 c8 rfl rfl HR8.out HC8.out HB8.out HLZ.out ?_; intro v9 w9 HR9 HB9 HG9)
          | (go_at_call 38; refine (HEN.out).mono ?_; rintro e w8 ⟨v8, rfl, hr8, hb8⟩; obtain ⟨A8, c8, hv8, hc8, hC8⟩ := hr8.out.reads; subst hv8; have HC8 := Lib.hid hC8; have HR8 := Lib.hid (HRZ.out.below hb8.out); have HB8 := Lib.hid (bthen HBZ.out hb8.out)))
        go_ret
        exact ⟨_, rfl, by
          have h10 : blobL false true srs s b = LL ++ L2 := by rw [← HLE.out, ← HL2.out, ← HL0E.out]; unfold blobL; rw [HBN.out]; rw [show (if (true && !false) = true then corn false b else []) = corn false b from rfl, HCO.out, show cornK false b 4 = MWkb.nm lx 8 false ++ MWkb.nm hx 8 false ++ MWkb.nm ly 8 false ++ MWkb.nm hy 8 false by rw [← H1.out, ← H2.out, ← H3.out, ← H4.out]; rfl]; simp [flagsV]
          rw [HBL.out, h10]
          exact HR9.out, HB9.out⟩
  · have HRL : Hid (RB w (W4.alloc (.cells #[.int .u8 71, .int .u8 80, .int .u8 0, .int .u8 16] 5)) (.slice (some ⟨W4.heap.size, 0, none⟩) 4 4) [71, 80, 0, 16]) := Lib.hid (RB.lit [71, 80, 0, 16] HB4.out.size (by simp [maxLen]))
    have HBa : Hid (Bel W4 (W4.alloc (.cells #[.int .u8 71, .int .u8 80, .int .u8 0, .int .u8 16] 5))) := Lib.hid ((Bel.refl W4).alloc (Nat.le_refl _) _)
    have HPU := Lib.hid (ref02_Put_calls (some ⟨W4.heap.size, 0, none⟩) 4 [71, 80, 0, 16] (MWkb.u64 srs) 4 false _ (Kd.R_reads' HRL.out).2.2 (by simp) (by simp) (MWkb.u64_in _).1 (MWkb.u64_in _).2)
    have hu := u64w srs
    have q1 : Go.bits .or .u8 0 1 = 1 := by rfl
    have q2 : Go.bits .or .u8 0 2 = 2 := by rfl
    have q3 : Go.bits .or .u8 1 2 = 3 := by rfl
    have q4 : Go.bits .or .u8 0 16 = 16 := by rfl
    have q5 : Go.bits .or .u8 1 16 = 17 := by rfl
    go_upto_region 12 with (go_at_call 70; refine (HPU.out).mono ?_; rintro e w5 ⟨v5, rfl, hr5, hb5⟩)
    clear hu q1 q2 q3 q4 q5
    have HB5 := Lib.hid (bthen HB4.out (bthen HBa.out hb5))
    obtain ⟨L0, hL0⟩ : ∃ l, [71, 80, 0, 16] ++ MWkb.nm srs 4 false = l := ⟨_, rfl⟩
    have HL0 : Hid (L0.length = 8) := Lib.hid (by rw [← hL0, List.length_append, MWkb.nm4]; rfl)
    have HR5 : Hid (RB w w5 v5 L0) := Lib.hid (by rw [← hL0]; exact hr5.lower (bthen HB4.out HBa.out).size)
    have HL0E := Lib.hid hL0
    have HS5 := Lib.hid (Blk.bel HS4.out (bthen HBa.out hb5))
    have HX5 := Lib.hid (Blk.bel HX4.out (bthen HBa.out hb5))
    clear hL0 hr5 hb5 HPU HRL x0 x1 x2 x3 x4
    obtain ⟨x0, x1, x2, x3, x4⟩ := Blk.cells5 HX5.out
    obtain ⟨s0, s1, s2⟩ := Blk.cells3 HS5.out
    obtain ⟨L2, hL2⟩ : ∃ l, MWkb.enc false s = l := ⟨_, rfl⟩
    have HL2 := Lib.hid hL2
    have HLW : Hid (L2.length < 1000000) := Lib.hid (by have := HEL.out; have := HLI.out; rw [hL2] at *; omega)
    clear hL2
    obtain ⟨A9, n9, c9, hv5⟩ := RB.sl HR5.out
    subst hv5
    have hbits : Go.bits .and .u8 16 2 = 0 := by rfl
    have HBZ := HB5
    have HRZ := HR5
    obtain ⟨LL, hLL⟩ : ∃ l, L0 = l := ⟨_, rfl⟩
    have HLE := Lib.hid hLL
    have HLZ : Hid (LL.length + L2.length < 140737488355328) := Lib.hid (by rw [← hLL]; have := HL0.out; have := HLW.out; omega)
    rw [hLL] at HRZ
    clear hLL
    · have HEN : Hid (Calls Tryd.prog 38 #[.agg #[.int .i64 kd, .slice u1 u2 u3, .slice u4 u5 u6], .bool false] w5 fun e w' => ∃ v, e = .returned v ∧ Hid (RB w5 w' v L2) ∧ Hid (Bel w5 w')) := Lib.hid (by
        have h9 := HE.out w5 (by have := HBZ.out.size; have := HBB.out; omega) (HS.out.keep (KeepB.bel HBZ.out))
        have h10 : encB false s = L2 := by unfold encB; rw [if_pos HCE.out, HL2.out]
        rw [h10] at h9
        exact h9)
      go_wp2_with (first
        | (at_builtin; refine appNg (w0 := w) (.tmp 65) (.tmp 68) rfl rfl (.slice A9 n9 c9) LL L2 A8 c8 rfl rfl HR8.out HC8.out HB8.out HLZ.out ?_; intro v9 w9 HR9 HB9 HG9)
        | (go_at_call 38; refine (HEN.out).mono ?_; rintro e w8 ⟨v8, rfl, hr8, hb8⟩; obtain ⟨A8, c8, hv8, hc8, hC8⟩ := hr8.out.reads; subst hv8; have HC8 := Lib.hid hC8; have HR8 := Lib.hid (HRZ.out.below hb8.out); have HB8 := Lib.hid (bthen HBZ.out hb8.out)))
      go_ret
      exact ⟨_, rfl, by
        have h10 : blobL false true srs s b = LL ++ L2 := by rw [← HLE.out, ← HL2.out, ← HL0E.out]; unfold blobL; rw [HBN.out]; simp [flagsV]
        rw [HBL.out, h10]
        exact HR9.out, HB9.out⟩
  · have HRL : Hid (RB w (W4.alloc (.cells #[.int .u8 71, .int .u8 80, .int .u8 0, .int .u8 1] 5)) (.slice (some ⟨W4.heap.size, 0, none⟩) 4 4) [71, 80, 0, 1]) := Lib.hid (RB.lit [71, 80, 0, 1] HB4.out.size (by simp [maxLen]))
    have HBa : Hid (Bel W4 (W4.alloc (.cells #[.int .u8 71, .int .u8 80, .int .u8 0, .int .u8 1] 5))) := Lib.hid ((Bel.refl W4).alloc (Nat.le_refl _) _)
    have HPU := Lib.hid (ref02_Put_calls (some ⟨W4.heap.size, 0, none⟩) 4 [71, 80, 0, 1] (MWkb.u64 srs) 4 true _ (Kd.R_reads' HRL.out).2.2 (by simp) (by simp) (MWkb.u64_in _).1 (MWkb.u64_in _).2)
    have hu := u64w srs
    have q1 : Go.bits .or .u8 0 1 = 1 := by rfl
    have q2 : Go.bits .or .u8 0 2 = 2 := by rfl
    have q3 : Go.bits .or .u8 1 2 = 3 := by rfl
    have q4 : Go.bits .or .u8 0 16 = 16 := by rfl
    have q5 : Go.bits .or .u8 1 16 = 17 := by rfl
    go_upto_region 12 with (go_at_call 70; refine (HPU.out).mono ?_; rintro e w5 ⟨v5, rfl, hr5, hb5⟩)
    clear hu q1 q2 q3 q4 q5
    have HB5 := Lib.hid (bthen HB4.out (bthen HBa.out hb5))
    obtain ⟨L0, hL0⟩ : ∃ l, [71, 80, 0, 1] ++ MWkb.nm srs 4 true = l := ⟨_, rfl⟩
    have HL0 : Hid (L0.length = 8) := Lib.hid (by rw [← hL0, List.length_append, MWkb.nm4]; rfl)
    have HR5 : Hid (RB w w5 v5 L0) := Lib.hid (by rw [← hL0]; exact hr5.lower (bthen HB4.out HBa.out).size)
    have HL0E := Lib.hid hL0
    have HS5 := Lib.hid (Blk.bel HS4.out (bthen HBa.out hb5))
    have HX5 := Lib.hid (Blk.bel HX4.out (bthen HBa.out hb5))
    clear hL0 hr5 hb5 HPU HRL x0 x1 x2 x3 x4
    obtain ⟨x0, x1, x2, x3, x4⟩ := Blk.cells5 HX5.out
    obtain ⟨s0, s1, s2⟩ := Blk.cells3 HS5.out
    obtain ⟨L2, hL2⟩ : ∃ l, MWkb.enc true s = l := ⟨_, rfl⟩
    have HL2 := Lib.hid hL2
    have HLW : Hid (L2.length < 1000000) := Lib.hid (by have := HEL.out; have := HLI.out; rw [hL2] at *; omega)
    clear hL2
    obtain ⟨A9, n9, c9, hv5⟩ := RB.sl HR5.out
    subst hv5
    have hbits : Go.bits .and .u8 1 2 = 0 := by rfl
    have HBZ := HB5
    have HRZ := HR5
    obtain ⟨LL, hLL⟩ : ∃ l, L0 = l := ⟨_, rfl⟩
    have HLE := Lib.hid hLL
    have HLZ : Hid (LL.length + L2.length < 140737488355328) := Lib.hid (by rw [← hLL]; have := HL0.out; have := HLW.out; omega)
    rw [hLL] at HRZ
    clear hLL
    · have HEN : Hid (Calls Tryd.prog 38 #[.agg #[.int .i64 kd, .slice u1 u2 u3, .slice u4 u5 u6], .bool true] w5 fun e w' => ∃ v, e = .returned v ∧ Hid (RB w5 w' v L2) ∧ Hid (Bel w5 w')) := Lib.hid (by
        have h9 := HE.out w5 (by have := HBZ.out.size; have := HBB.out; omega) (HS.out.keep (KeepB.bel HBZ.out))
        have h10 : encB true s = L2 := by unfold encB; rw [if_pos HCE.out, HL2.out]
        rw [h10] at h9
        exact h9)
      go_wp2_with (first
        | (at_builtin; refine appNg (w0 := w) (.tmp 65) (.tmp 68) rfl rfl (.slice A9 n9 c9) LL L2 A8 c8 rfl rfl HR8.out HC8.out HB8.out HLZ.out ?_; intro v9 w9 HR9 HB9 HG9)
        | (go_at_call 38; refine (HEN.out).mono ?_; rintro e w8 ⟨v8, rfl, hr8, hb8⟩; obtain ⟨A8, c8, hv8, hc8, hC8⟩ := hr8.out.reads; subst hv8; have HC8 := Lib.hid hC8; have HR8 := Lib.hid (HRZ.out.below hb8.out); have HB8 := Lib.hid (bthen HBZ.out hb8.out)))
      go_ret
      exact ⟨_, rfl, by
        have h10 : blobL true false srs s b = LL ++ L2 := by rw [← HLE.out, ← HL2.out, ← HL0E.out]; unfold blobL; rw [HBN.out]; simp [flagsV]
        rw [HBL.out, h10]
        exact HR9.out, HB9.out⟩
  · have HRL : Hid (RB w (W4.alloc (.cells #[.int .u8 71, .int .u8 80, .int .u8 0, .int .u8 17] 5)) (.slice (some ⟨W4.heap.size, 0, none⟩) 4 4) [71, 80, 0, 17]) := Lib.hid (RB.lit [71, 80, 0, 17] HB4.out.size (by simp [maxLen]))
    have HBa : Hid (Bel W4 (W4.alloc (.cells #[.int .u8 71, .int .u8 80, .int .u8 0, .int .u8 17] 5))) := Lib.hid ((Bel.refl W4).alloc (Nat.le_refl _) _)
    have HPU := Lib.hid (ref02_Put_calls (some ⟨W4.heap.size, 0, none⟩) 4 [71, 80, 0, 17] (MWkb.u64 srs) 4 true _ (Kd.R_reads' HRL.out).2.2 (by simp) (by simp) (MWkb.u64_in _).1 (MWkb.u64_in _).2)
    have hu := u64w srs
    have q1 : Go.bits .or .u8 0 1 = 1 := by rfl
    have q2 : Go.bits .or .u8 0 2 = 2 := by rfl
    have q3 : Go.bits .or .u8 1 2 = 3 := by rfl
    have q4 : Go.bits .or .u8 0 16 = 16 := by rfl
    have q5 : Go.bits .or .u8 1 16 = 17 := by rfl
    go_upto_region 12 with (go_at_call 70; refine (HPU.out).mono ?_; rintro e w5 ⟨v5, rfl, hr5, hb5⟩)
    clear hu q1 q2 q3 q4 q5
    have HB5 := Lib.hid (bthen HB4.out (bthen HBa.out hb5))
    obtain ⟨L0, hL0⟩ : ∃ l, [71, 80, 0, 17] ++ MWkb.nm srs 4 true = l := ⟨_, rfl⟩
    have HL0 : Hid (L0.length = 8) := Lib.hid (by rw [← hL0, List.length_append, MWkb.nm4]; rfl)
    have HR5 : Hid (RB w w5 v5 L0) := Lib.hid (by rw [← hL0]; exact hr5.lower (bthen HB4.out HBa.out).size)
    have HL0E := Lib.hid hL0
    have HS5 := Lib.hid (Blk.bel HS4.out (bthen HBa.out hb5))
    have HX5 := Lib.hid (Blk.bel HX4.out (bthen HBa.out hb5))
    clear hL0 hr5 hb5 HPU HRL x0 x1 x2 x3 x4
    obtain ⟨x0, x1, x2, x3, x4⟩ := Blk.cells5 HX5.out
    obtain ⟨s0, s1, s2⟩ := Blk.cells3 HS5.out
    obtain ⟨L2, hL2⟩ : ∃ l, MWkb.enc true s = l := ⟨_, rfl⟩
    have HL2 := Lib.hid hL2
    have HLW : Hid (L2.length < 1000000) := Lib.hid (by have := HEL.out; have := HLI.out; rw [hL2] at *; omega)
    clear hL2
    obtain ⟨A9, n9, c9, hv5⟩ := RB.sl HR5.out
    subst hv5
    have hbits : Go.bits .and .u8 17 2 = 0 := by rfl
    have HBZ := HB5
    have HRZ := HR5
    obtain ⟨LL, hLL⟩ : ∃ l, L0 = l := ⟨_, rfl⟩
    have HLE := Lib.hid hLL
    have HLZ : Hid (LL.length + L2.length < 140737488355328) := Lib.hid (by rw [← hLL]; have := HL0.out; have := HLW.out; omega)
    rw [hLL] at HRZ
    clear hLL
    · have HEN : Hid (Calls Tryd.prog 38 #[.agg #[.int .i64 kd, .slice u1 u2 u3, .slice u4 u5 u6], .bool true] w5 fun e w' => ∃ v, e = .returned v ∧ Hid (RB w5 w' v L2) ∧ Hid (Bel w5 w')) := Lib.hid (by
        have h9 := HE.out w5 (by have := HBZ.out.size; have := HBB.out; omega) (HS.out.keep (KeepB.bel HBZ.out))
        have h10 : encB true s = L2 := by unfold encB; rw [if_pos HCE.out, HL2.out]
        rw [h10] at h9
        exact h9)
      go_wp2_with (first
        | (at_builtin; refine appNg (w0 := w) (.tmp 65) (.tmp 68) rfl rfl (.slice A9 n9 c9) LL L2 A8 c8 rfl rfl HR8.out HC8.out HB8.out HLZ.out ?_; intro v9 w9 HR9 HB9 HG9)
        | (go_at_call 38; refine (HEN.out).mono ?_; rintro e w8 ⟨v8, rfl, hr8, hb8⟩; obtain ⟨A8, c8, hv8, hc8, hC8⟩ := hr8.out.reads; subst hv8; have HC8 := Lib.hid hC8; have HR8 := Lib.hid (HRZ.out.below hb8.out); have HB8 := Lib.hid (bthen HBZ.out hb8.out)))
      go_ret
      exact ⟨_, rfl, by
        have h10 : blobL true false srs s b = LL ++ L2 := by rw [← HLE.out, ← HL2.out, ← HL0E.out]; unfold blobL; rw [HBN.out]; simp [flagsV]
        rw [HBL.out, h10]
        exact HR9.out, HB9.out⟩
  · have HRL : Hid (RB w (W4.alloc (.cells #[.int .u8 71, .int .u8 80, .int .u8 0, .int .u8 3] 5)) (.slice (some ⟨W4.heap.size, 0, none⟩) 4 4) [71, 80, 0, 3]) := Lib.hid (RB.lit [71, 80, 0, 3] HB4.out.size (by simp [maxLen]))
    have HBa : Hid (Bel W4 (W4.alloc (.cells #[.int .u8 71, .int .u8 80, .int .u8 0, .int .u8 3] 5))) := Lib.hid ((Bel.refl W4).alloc (Nat.le_refl _) _)
    have HPU := Lib.hid (ref02_Put_calls (some ⟨W4.heap.size, 0, none⟩) 4 [71, 80, 0, 3] (MWkb.u64 srs) 4 true _ (Kd.R_reads' HRL.out).2.2 (by simp) (by simp) (MWkb.u64_in _).1 (MWkb.u64_in _).2)
    have hu := u64w srs
    have q1 : Go.bits .or .u8 0 1 = 1 := by rfl
    have q2 : Go.bits .or .u8 0 2 = 2 := by rfl
    have q3 : Go.bits .or .u8 1 2 = 3 := by rfl
    have q4 : Go.bits .or .u8 0 16 = 16 := by rfl
    have q5 : Go.bits .or .u8 1 16 = 17 := by rfl
    go_upto_region 12 with (go_at_call 70; refine (HPU.out).mono ?_; rintro e w5 ⟨v5, rfl, hr5, hb5⟩)
    clear hu q1 q2 q3 q4 q5
    have HB5 := Lib.hid (bthen HB4.out (bthen HBa.out hb5))
    obtain ⟨L0, hL0⟩ : ∃ l, [71, 80, 0, 3] ++ MWkb.nm srs 4 true = l := ⟨_, rfl⟩
    have HL0 : Hid (L0.length = 8) := Lib.hid (by rw [← hL0, List.length_append, MWkb.nm4]; rfl)
    have HR5 : Hid (RB w w5 v5 L0) := Lib.hid (by rw [← hL0]; exact hr5.lower (bthen HB4.out HBa.out).size)
    have HL0E := Lib.hid hL0
    have HS5 := Lib.hid (Blk.bel HS4.out (bthen HBa.out hb5))
    have HX5 := Lib.hid (Blk.bel HX4.out (bthen HBa.out hb5))
    clear hL0 hr5 hb5 HPU HRL x0 x1 x2 x3 x4
    obtain ⟨x0, x1, x2, x3, x4⟩ := Blk.cells5 HX5.out
    obtain ⟨s0, s1, s2⟩ := Blk.cells3 HS5.out
    obtain ⟨L2, hL2⟩ : ∃ l, MWkb.enc true s = l := ⟨_, rfl⟩
    have HL2 := Lib.hid hL2
    have HLW : Hid (L2.length < 1000000) := Lib.hid (by have := HEL.out; have := HLI.out; rw [hL2] at *; omega)
    clear hL2
    obtain ⟨A5, n5, c5, hv5⟩ := RB.sl HR5.out
    subst hv5
    have hbits : Go.bits .and .u8 3 2 = 2 := by rfl
    go_wp2
    clear x0 x1 x2 x3 x4 s0 s1 s2 hbits
    go_loopw [11, 56] (fun ov i wr => ∃ k : Nat, i = .int .i64 k ∧ k ≤ 4 ∧ Hid (RB w wr ov (L0 ++ cornK true b k)) ∧ Hid (Bel w5 wr)) (fun _ i _ => 4 - (intOf i).toNat)
    case atStart => exact ⟨0, rfl, by omega, Lib.hid (by rw [show cornK true b 0 = [] from rfl, List.append_nil]; exact HR5.out), Lib.hid (Bel.refl w5)⟩
    case round =>
      obtain ⟨k, rfl, hk, HRk, HBk⟩ := hrel
      have hk : k = 0 ∨ k = 1 ∨ k = 2 ∨ k = 3 ∨ k = 4 := by omega
      have HLk : Hid ((L0 ++ cornK true b k).length ≤ 40) := Lib.hid (by rw [List.length_append, HL0.out]; rcases hk with rfl | rfl | rfl | rfl | rfl <;> simp [cornK, MWkb.nm8])
      obtain ⟨A9, c9, hv9, hc9, hC9⟩ := HRk.out.reads
      obtain ⟨n9, hn9⟩ : ∃ n, (L0 ++ cornK true b k).length = n := ⟨_, rfl⟩
      have HPU : Hid (∀ x, Calls Tryd.prog 70 #[.slice A9 n9 c9, .int .u64 (MWkb.u64 x), .int .i64 8, .bool true] wr fun e w' => ∃ v, e = .returned v ∧ RB wr w' v (L0 ++ cornK true b k ++ MWkb.nm x 8 true) ∧ Below wr.heap.size wr w') := Lib.hid (fun x => by
        have h9 := ref02_Put_calls A9 c9 (L0 ++ cornK true b k) (MWkb.u64 x) 8 true wr hC9 hc9 (by have := HLk.out; omega) (MWkb.u64_in _).1 (MWkb.u64_in _).2
        rw [hn9] at h9
        exact h9)
      have HC9 := Lib.hid hC9
      rw [hn9] at hv9
      clear hn9 hC9 hc9
      subst hv9
      rcases hk with rfl | rfl | rfl | rfl | rfl
      · have hi := fun W' => (HI.out W').1
        have hu := u64w lx
        go_wp2_with (go_at_call 70; refine (HPU.out lx).mono ?_; rintro e w7 ⟨v7, rfl, hr7, hb7⟩)
        go_roundw
        case rel => exact ⟨1, rfl, by omega, Lib.hid (by have h9 := hr7.lower (w0 := w) (bthen HB5.out HBk.out).size; rw [List.append_assoc, ← H1.out] at h9; rw [show cornK true b 0 = [] from rfl, List.nil_append] at h9; exact h9), Lib.hid (bthen HBk.out hb7)⟩
        case measure => (simp [intOf] <;> omega)
      · have hi := fun W' => (HI.out W').2.1
        have hu := u64w hx
        go_wp2_with (go_at_call 70; refine (HPU.out hx).mono ?_; rintro e w7 ⟨v7, rfl, hr7, hb7⟩)
        go_roundw
        case rel => exact ⟨2, rfl, by omega, Lib.hid (by have h9 := hr7.lower (w0 := w) (bthen HB5.out HBk.out).size; rw [List.append_assoc, ← H3.out] at h9; exact h9), Lib.hid (bthen HBk.out hb7)⟩
        case measure => (simp [intOf] <;> omega)
      · have hi := fun W' => (HI.out W').2.2.1
        have hu := u64w ly
        go_wp2_with (go_at_call 70; refine (HPU.out ly).mono ?_; rintro e w7 ⟨v7, rfl, hr7, hb7⟩)
        go_roundw
        case rel => exact ⟨3, rfl, by omega, Lib.hid (by have h9 := hr7.lower (w0 := w) (bthen HB5.out HBk.out).size; rw [List.append_assoc, ← H2.out] at h9; exact h9), Lib.hid (bthen HBk.out hb7)⟩
        case measure => (simp [intOf] <;> omega)
      · have hi := fun W' => (HI.out W').2.2.2
        have hu := u64w hy
        go_wp2_with (go_at_call 70; refine (HPU.out hy).mono ?_; rintro e w7 ⟨v7, rfl, hr7, hb7⟩)
        go_roundw
        case rel => exact ⟨4, rfl, by omega, Lib.hid (by have h9 := hr7.lower (w0 := w) (bthen HB5.out HBk.out).size; rw [List.append_assoc, ← H4.out] at h9; exact h9), Lib.hid (bthen HBk.out hb7)⟩
        case measure => (simp [intOf] <;> omega)
      · have HBZ := Lib.hid (bthen HB5.out HBk.out)
        have HRZ := HRk
        obtain ⟨LL, hLL⟩ : ∃ l, L0 ++ cornK true b 4 = l := ⟨_, rfl⟩
        have HLE := Lib.hid hLL
        have HLZ : Hid (LL.length + L2.length < 140737488355328) := Lib.hid (by rw [← hLL]; have := HLk.out; have := HLW.out; omega)
        rw [hLL] at HRZ
        obtain ⟨s0, s1, s2⟩ := Blk.cells3 (Blk.bel HS5.out HBk.out)
        clear hLL
        have HEN : Hid (Calls Tryd.prog 38 #[.agg #[.int .i64 kd, .slice u1 u2 u3, .slice u4 u5 u6], .bool true] wr fun e w' => ∃ v, e = .returned v ∧ Hid (RB wr w' v L2) ∧ Hid (Bel wr w')) := Lib.hid (by
          have h9 := HE.out wr (by have := HBZ.out.size; have := HBB.out; omega) (HS.out.keep (KeepB.bel HBZ.out))
          have h10 : encB true s = L2 := by unfold encB; rw [if_pos HCE.out, HL2.out]
          rw [h10] at h9
          exact h9)
        go_wp2_with (first
          | (at_builtin; refine appNg (w0 := w) (.tmp 65) (.tmp 68) rfl rfl (.slice A9 n9 c9) LL L2 A8 c8 rfl rfl HR8.out HC8.out HB8.out HLZ.out ?_; intro v9 w9 HR9 HB9 HG9)
          | (go_at_call 38; refine (HEN.out).mono ?_; rintro e w8 ⟨v8, rfl, hr8, hb8⟩; obtain ⟨A8, c8, hv8, hc8, hC8⟩ := hr8.out.reads; subst hv8; have HC8 := Lib.hid hC8; have HR8 := Lib.hid (HRZ.out.below hb8.out); have HB8 := Lib.hid (bthen HBZ.out hb8.out)))
        go_ret
        exact ⟨_, rfl, by
          have h10 : blobL true true srs s b = LL ++ L2 := by rw [← HLE.out, ← HL2.out, ← HL0E.out]; unfold blobL; rw [HBN.out]; rw [show (if (true && !false) = true then corn true b else []) = corn true b from rfl, HCO.out, show cornK true b 4 = MWkb.nm lx 8 true ++ MWkb.nm hx 8 true ++ MWkb.nm ly 8 true ++ MWkb.nm hy 8 true by rw [← H1.out, ← H2.out, ← H3.out, ← H4.out]; rfl]; simp [flagsV]
          rw [HBL.out, h10]
          exact HR9.out, HB9.out⟩
  · have HRL : Hid (RB w (W4.alloc (.cells #[.int .u8 71, .int .u8 80, .int .u8 0, .int .u8 17] 5)) (.slice (some ⟨W4.heap.size, 0, none⟩) 4 4) [71, 80, 0, 17]) := Lib.hid (RB.lit [71, 80, 0, 17] HB4.out.size (by simp [maxLen]))
    have HBa : Hid (Bel W4 (W4.alloc (.cells #[.int .u8 71, .int .u8 80, .int .u8 0, .int .u8 17] 5))) := Lib.hid ((Bel.refl W4).alloc (Nat.le_refl _) _)
    have HPU := Lib.hid (ref02_Put_calls (some ⟨W4.heap.size, 0, none⟩) 4 [71, 80, 0, 17] (MWkb.u64 srs) 4 true _ (Kd.R_reads' HRL.out).2.2 (by simp) (by simp) (MWkb.u64_in _).1 (MWkb.u64_in _).2)
    have hu := u64w srs
    have q1 : Go.bits .or .u8 0 1 = 1 := by rfl
    have q2 : Go.bits .or .u8 0 2 = 2 := by rfl
    have q3 : Go.bits .or .u8 1 2 = 3 := by rfl
    have q4 : Go.bits .or .u8 0 16 = 16 := by rfl
    have q5 : Go.bits .or .u8 1 16 = 17 := by rfl
    go_upto_region 12 with (go_at_call 70; refine (HPU.out).mono ?_; rintro e w5 ⟨v5, rfl, hr5, hb5⟩)
    clear hu q1 q2 q3 q4 q5
    have HB5 := Lib.hid (bthen HB4.out (bthen HBa.out hb5))
    obtain ⟨L0, hL0⟩ : ∃ l, [71, 80, 0, 17] ++ MWkb.nm srs 4 true = l := ⟨_, rfl⟩
    have HL0 : Hid (L0.length = 8) := Lib.hid (by rw [← hL0, List.length_append, MWkb.nm4]; rfl)
    have HR5 : Hid (RB w w5 v5 L0) := Lib.hid (by rw [← hL0]; exact hr5.lower (bthen HB4.out HBa.out).size)
    have HL0E := Lib.hid hL0
    have HS5 := Lib.hid (Blk.bel HS4.out (bthen HBa.out hb5))
    have HX5 := Lib.hid (Blk.bel HX4.out (bthen HBa.out hb5))
    clear hL0 hr5 hb5 HPU HRL x0 x1 x2 x3 x4
    obtain ⟨x0, x1, x2, x3, x4⟩ := Blk.cells5 HX5.out
    obtain ⟨s0, s1, s2⟩ := Blk.cells3 HS5.out
    obtain ⟨L2, hL2⟩ : ∃ l, MWkb.enc true s = l := ⟨_, rfl⟩
    have HL2 := Lib.hid hL2
    have HLW : Hid (L2.length < 1000000) := Lib.hid (by have := HEL.out; have := HLI.out; rw [hL2] at *; omega)
    clear hL2
    obtain ⟨A9, n9, c9, hv5⟩ := RB.sl HR5.out
    subst hv5
    have hbits : Go.bits .and .u8 17 2 = 0 := by rfl
    have HBZ := HB5
    have HRZ := HR5
    obtain ⟨LL, hLL⟩ : ∃ l, L0 = l := ⟨_, rfl⟩
    have HLE := Lib.hid hLL
    have HLZ : Hid (LL.length + L2.length < 140737488355328) := Lib.hid (by rw [← hLL]; have := HL0.out; have := HLW.out; omega)
    rw [hLL] at HRZ
    clear hLL
    · have HEN : Hid (Calls Tryd.prog 38 #[.agg #[.int .i64 kd, .slice u1 u2 u3, .slice u4 u5 u6], .bool true] w5 fun e w' => ∃ v, e = .returned v ∧ Hid (RB w5 w' v L2) ∧ Hid (Bel w5 w')) := Lib.hid (by
        have h9 := HE.out w5 (by have := HBZ.out.size; have := HBB.out; omega) (HS.out.keep (KeepB.bel HBZ.out))
        have h10 : encB true s = L2 := by unfold encB; rw [if_pos HCE.out, HL2.out]
        rw [h10] at h9
        exact h9)
      go_wp2_with (first
        | (at_builtin; refine appNg (w0 := w) (.tmp 65) (.tmp 68) rfl rfl (.slice A9 n9 c9) LL L2 A8 c8 rfl rfl HR8.out HC8.out HB8.out HLZ.out ?_; intro v9 w9 HR9 HB9 HG9)
        | (go_at_call 38; refine (HEN.out).mono ?_; rintro e w8 ⟨v8, rfl, hr8, hb8⟩; obtain ⟨A8, c8, hv8, hc8, hC8⟩ := hr8.out.reads; subst hv8; have HC8 := Lib.hid hC8; have HR8 := Lib.hid (HRZ.out.below hb8.out); have HB8 := Lib.hid (bthen HBZ.out hb8.out)))
      go_ret
      exact ⟨_, rfl, by
        have h10 : blobL true true srs s b = LL ++ L2 := by rw [← HLE.out, ← HL2.out, ← HL0E.out]; unfold blobL; rw [HBN.out]; simp [flagsV]
        rw [HBL.out, h10]
        exact HR9.out, HB9.out⟩

end Go.Proofs.YtfknhpgelleenaaDoor.K
