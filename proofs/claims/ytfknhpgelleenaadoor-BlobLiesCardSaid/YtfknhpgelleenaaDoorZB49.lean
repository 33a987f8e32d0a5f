/- What a claim leans on, part 49, cut by a program out of the texts WLies16. -/
import Derived.Handy
import Derived.Test.YtfknhpgelleenaaDoorZB4
import Derived.Test.YtfknhpgelleenaaDoorZB24
import Derived.Test.YtfknhpgelleenaaDoorZB26
import Derived.Test.YtfknhpgelleenaaDoorZB40
import Derived.Test.YtfknhpgelleenaaDoorZB41
import Derived.Test.YtfknhpgelleenaaDoorZB42
import Derived.Test.YtfknhpgelleenaaDoorZB43
import Derived.Test.YtfknhpgelleenaaDoorZB44
section
namespace Go.Proofs.YtfknhpgelleenaaDoor.K
open Go Go.RowKit Go.Proofs.YtfknhpgelleenaaDoorW.PrintWords Go.Proofs.YtfknhpgelleenaaDoorW.PrintLast Go.Proofs.YtfknhpgelleenaaDoorW.PrintMore
set_option linter.unusedVariables false
set_option linter.unusedSimpArgs false
open Go.Proofs.YtfknhpgelleenaaDoor.MPeek
open Go.Proofs.YtfknhpgelleenaaDoor.MBox (noneB zeroB good)
open Go.Proofs.YtfknhpgelleenaaDoor.MShape (Sh)
open Go.Proofs.YtfknhpgelleenaaDoor.MRead (readS inS inI)
theorem flagsV_in : ∀ a b c : Bool, 0 ≤ flagsV a b c ∧ flagsV a b c < 256 := by decide
theorem bytes_set {T : List Int} (h : bytesOk T) {k : Nat} {v : Int} (hv : 0 ≤ v ∧ v < 256) : bytesOk (T.set k v) := fun x hx => by
  rcases List.mem_or_eq_of_mem_set hx with hx | rfl
  · exact h x hx
  · exact hv
theorem byte_at {W : World} {g : Nat} {T : List Int} {w0 : World} {t c k : Nat} {q : Int} (h : RB w0 W (.slice (some ⟨g, 0, none⟩) t c) T) (ht : T.length = t) (hk : k < t) (hq : T.getD k 0 = q) : W.cell? ⟨g, k, none⟩ = some (.int .u8 q) := by
  obtain ⟨A9, c9, h9, h10, h11⟩ := h.reads
  injection h9 with e1 e2 e3
  subst e1
  obtain ⟨ad, h12, h13⟩ := h11.at_ k (by omega)
  injection h12 with h12
  subst h12
  rw [hq, add_mid, Nat.zero_add] at h13
  exact h13
theorem byte_put {W : World} {g : Nat} {T : List Int} {w0 : World} {t c k : Nat} (h : RB w0 W (.slice (some ⟨g, 0, none⟩) t c) T) (v : Int) (ht : T.length = t) : RB w0 (W.setCell ⟨g, k, none⟩ (.int .u8 v)) (.slice (some ⟨g, 0, none⟩) t c) (T.set k v) := by
  subst ht
  have h8 := (Kd.R_put (enc := Value.int .u8) h (k : Int) v).1
  rw [Int.toNat_natCast] at h8
  exact h8
theorem open_row {w0 W : World} {g t c : Nat} {L : List Int} {e : Int} (h : RB w0 W (.slice (some ⟨g, 0, none⟩) t c) L) (ht : L.length = t) (hb : bytesOk L) (hlen : t < 100000000000) (hGl : Gl W) (ho : openS boxOf L = .bad e) :
    Calls Tryd.prog 46 #[.slice (some ⟨g, 0, none⟩) t c] W fun ex w' => ex = .returned (.tuple #[.agg #[.int .i64 0, .bool false, .bool false, .bool false, .bool false, .int .i64 0, .int .i64 0, .int .i64 0, .int .i64 0], .agg #[.int .i64 0, .slice none 0 0, .slice none 0 0], .int .i64 e]) ∧ Bel W w' := by
  subst ht
  obtain ⟨A9, c9, h9, h10, h11⟩ := h.reads
  injection h9 with e1 e2 e3
  subst e1 e3
  exact open_none W _ c L h11 h10 hb hlen hGl ho
set_option maxRecDepth 100000 in
theorem bfield0 (x : Bool) (p q r t : Int) (w : World) : (Instr.field 67 (.agg #[.bool x, .int .i64 p, .int .i64 q, .int .i64 r, .int .i64 t]) 0).run Tryd.prog w = .ok (.bool x) w := by
  simp [Instr.field, asAgg, go_sem, run_underlying Tryd.underlying67, Tryd.underlying67, Tryd.underlying4, run_underlying Tryd.underlying4, Tryd.underlying3, run_underlying Tryd.underlying3, Tryd.underlying41, run_underlying Tryd.underlying41]
theorem RB.opens16 {w0 W : World} {v : Value} {l : List Int} (h : RB w0 W v l) (h0 : 0 < l.length) : ∃ g cap cur, v = .slice (some ⟨g, 0, none⟩) l.length cap ∧ l.length ≤ cap ∧ Blk W g cur 5 ∧ cur.size = cap ∧ w0.heap.size ≤ g := by
  obtain ⟨hok, inner, ⟨hlen, hown⟩, -⟩ := h
  rcases hown with ⟨_, e⟩ | ⟨g, cap, cur, e, hbg, hh, hle, _, hcs, _⟩
  · omega
  have hcs : cur.size = cap * 1 := hcs
  exact ⟨g, cap, cur, e, hle, hh, by omega, hbg⟩
set_option maxHeartbeats 8000000 in
set_option maxRecDepth 100000 in
theorem lies_short (D : Nat) (s : Sh) (c : Value × Value × Value) (srs : Int) (o bx : Bool) (n : Int) (w : World) (hn : 0 ≤ n ∧ n < 18446744073709551616) (hw2 : 2 ≤ w.heap.size) (hs : ShB w.heap.size w D c s) (hok : shOk s) (hF : FormsAt w) (hN : NowAt w) (hT : (blobB o true srs s).length < 40) :
    Calls Tryd.prog 13 #[.agg #[c.1, c.2.1, c.2.2], .agg #[.int .i64 srs, .bool o, .bool bx], .int .u64 n] w fun e w' => e = .returned (.bool true) ∧ Bel w w' := by
  have HE := Lib.hid (fun bx W h1 h2 h3 h4 h5 => make_calls D s c srs o bx W w.heap.size h1 h2 h3 h4 h5)
  have HRF := Lib.hid (fun W h1 h2 h3 => refOf_calls D s c W w.heap.size h1 h2 h3)
  have HS := Lib.hid hs
  have HOK : Hid (inS s) := Lib.hid (flat_in hok)
  obtain ⟨kd, u1, u2, u3, u4, u5, u6, rfl⟩ := hs.forms
  dsimp only at HE HRF HS ⊢
  have HGL : Hid (Gl w) := Lib.hid ⟨hF, hN, hw2⟩
  have HNN := Lib.hid hn
  clear hs hF hN hw2 hok hn
  have S := (Blk.new w #[.int .i64 kd, .slice u1 u2 u3, .slice u4 u5 u6] 25).alloc (.cells #[.int .i64 srs, .bool o, .bool bx] 53)
  have H := Blk.new_at (W := w.alloc (.cells #[.int .i64 kd, .slice u1 u2 u3, .slice u4 u5 u6] 25)) (g := w.heap.size + 1) (by simp) #[.int .i64 srs, .bool o, .bool bx] 53
  have HB : Hid (Bel w ((w.alloc (.cells #[.int .i64 kd, .slice u1 u2 u3, .slice u4 u5 u6] 25)).alloc (.cells #[.int .i64 srs, .bool o, .bool bx] 53))) := Lib.hid (((Bel.refl w).alloc (Nat.le_refl _) _).alloc (by simp) _)
  have HLV : Hid (∀ W', Bel w W' → Calls Tryd.prog 40 #[] W' fun e w'' => e = .returned (.bool true) ∧ Bel W' w'') := Lib.hid (fun W' h => lives16 W' (Nat.le_trans HGL.out.2.2 h.size) (HGL.out.1.bel h) (HGL.out.2.1.below HGL.out.2.2 h))
  have HE1 : Hid (∀ bx W', Bel w W' → Calls Tryd.prog 39 #[.agg #[.int .i64 kd, .slice u1 u2 u3, .slice u4 u5 u6], .int .i64 srs, .bool o, .bool bx] W' fun e w'' => ∃ v, e = .returned v ∧ Hid (RB W' w'' v (blobB o bx srs s)) ∧ Hid (Bel W' w'')) := Lib.hid (fun bx W' h => HE.out bx W' h.size (Nat.le_trans HGL.out.2.2 h.size) (HS.out.keep (KeepB.bel h)) (HGL.out.1.bel h) (HGL.out.2.1.below HGL.out.2.2 h))
  go_enter Tryd.func13, Tryd.ntmps13
  go_upto_region 1 with (fail)
  obtain ⟨W1, hW⟩ : ∃ X, (w.alloc (.cells #[.int .i64 kd, .slice u1 u2 u3, .slice u4 u5 u6] 25)).alloc (.cells #[.int .i64 srs, .bool o, .bool bx] 53) = X := ⟨_, rfl⟩
  rw [hW] at S H HB ⊢
  clear hW
  obtain ⟨gs, hg⟩ : ∃ X, w.heap.size = X := ⟨_, rfl⟩
  have HGS := Lib.hid hg
  rw [hg] at S H ⊢
  obtain ⟨gh, hg2⟩ : ∃ X, gs + 1 = X := ⟨_, rfl⟩
  rw [hg2] at H ⊢
  have HGH := Lib.hid hg2
  clear hg hg2
  obtain ⟨s0, s1, s2⟩ := Blk.cells3 S
  obtain ⟨h0, h1, h2⟩ := Blk.cells3 H
  have HSB := Lib.hid S
  have HHB := Lib.hid H
  clear S H HE
  have hkf := HHB.out.froz 2
  go_upto_region 2 with (fail)
  have HW1 : Hid (Blk (W1.setCell ⟨gh, 2, none⟩ (.bool true)) gh #[.int .i64 srs, .bool o, .bool true] 53) := Lib.hid (HHB.out.set 2 (.bool true))
  have HS1 : Hid (Blk (W1.setCell ⟨gh, 2, none⟩ (.bool true)) gs #[.int .i64 kd, .slice u1 u2 u3, .slice u4 u5 u6] 25) := Lib.hid (HSB.out.set_ne (by have := HGH.out; omega) (.bool true))
  have HB1 : Hid (Bel w (W1.setCell ⟨gh, 2, none⟩ (.bool true))) := Lib.hid (below_set HB.out (by have := HGH.out; have := HGS.out; omega) (.bool true))
  obtain ⟨W2, hW⟩ : ∃ Y, W1.setCell ⟨gh, 2, none⟩ (.bool true) = Y := ⟨_, rfl⟩
  rw [hW] at HW1 HS1 HB1 ⊢
  clear hW hkf s0 s1 s2 h0 h1 h2 HSB HHB
  obtain ⟨s0, s1, s2⟩ := Blk.cells3 (HS1.out.alloc (.cells #[] 5))
  obtain ⟨h0, h1, h2⟩ := Blk.cells3 (HW1.out.alloc (.cells #[] 5))
  have HLT := Lib.hid hT
  obtain ⟨T, hTT⟩ : ∃ T, blobB o true srs s = T := ⟨_, rfl⟩
  rw [hTT] at HLT
  have HE2 : Hid (∀ W', Bel w W' → Calls Tryd.prog 39 #[.agg #[.int .i64 kd, .slice u1 u2 u3, .slice u4 u5 u6], .int .i64 srs, .bool o, .bool true] W' fun e w'' => ∃ v, e = .returned v ∧ Hid (RB W' w'' v T) ∧ Hid (Bel W' w'')) := Lib.hid (fun W' h => by have := HE1.out true W' h; rw [hTT] at this; exact this)
  clear hTT hT HE1
  go_upto_region 3 with (first
    | (at_builtin; refine appN (w0 := w) (.tmp 22) (.tmp 28) rfl rfl (.slice (some ⟨W2.heap.size, 0, none⟩) 0 0) [] T A cap rfl rfl ((RB.lit0 HB1.out.size).below hb2.out) hC (bthen (HB1.out.alloc HB1.out.size _) hb2.out) (by have := HLT.out; simp; omega) ?_
       intro v3 w3 hr3 hb3)
    | (go_at_call 39; refine (HE2.out _ (HB1.out.alloc HB1.out.size _)).mono ?_; rintro e w2 ⟨v2, rfl, hr2, hb2⟩; obtain ⟨A, cap, hv2, hcap, hC⟩ := hr2.out.reads; subst hv2))
  obtain ⟨A3, c3, hv3, hc3, hC3⟩ := hr3.out.reads
  obtain ⟨t3, ht3⟩ : ∃ t, ([] ++ T).length = t := ⟨_, rfl⟩
  rw [ht3] at hv3
  subst hv3
  have hlt : (t3 : Int) < 40 := by rw [List.nil_append] at ht3; have := HLT.out; omega
  clear hC3 hc3 ht3 s0 s1 s2 h0 h1 h2
  go_wp2_with (go_at_call 40; refine (HLV.out _ hb3.out).mono ?_; rintro e w14 ⟨rfl, b14⟩; have B14 := Lib.hid b14; clear b14)
  go_ret
  exact ⟨by first | rfl | simp, bthen hb3.out B14.out⟩
set_option maxHeartbeats 8000000 in
set_option maxRecDepth 100000 in
theorem lies_box (D : Nat) (s : Sh) (c : Value × Value × Value) (srs : Int) (o bx : Bool) (n : Int) (w : World) (hn : 0 ≤ n ∧ n < 18446744073709551616) (hw2 : 2 ≤ w.heap.size) (hs : ShB w.heap.size w D c s) (hok : shOk s) (hF : FormsAt w) (hN : NowAt w) (hck : MShape.check s = 0) (hsr : srsOk srs = true) (hno : (boxOf s.flat).no = false) (hT : 40 ≤ (blobB o true srs s).length) :
    Calls Tryd.prog 13 #[.agg #[c.1, c.2.1, c.2.2], .agg #[.int .i64 srs, .bool o, .bool bx], .int .u64 n] w fun e w' => e = .returned (.bool true) ∧ Bel w w' := by
  have HE := Lib.hid (fun bx W h1 h2 h3 h4 h5 => make_calls D s c srs o bx W w.heap.size h1 h2 h3 h4 h5)
  have HRF := Lib.hid (fun W h1 h2 h3 => refOf_calls D s c W w.heap.size h1 h2 h3)
  have HS := Lib.hid hs
  have HOK : Hid (inS s) := Lib.hid (flat_in hok)
  obtain ⟨kd, u1, u2, u3, u4, u5, u6, rfl⟩ := hs.forms
  dsimp only at HE HRF HS ⊢
  have HGL : Hid (Gl w) := Lib.hid ⟨hF, hN, hw2⟩
  have HNN := Lib.hid hn
  obtain ⟨b, hbe⟩ : ∃ b, boxOf s.flat = b := ⟨_, rfl⟩
  rw [hbe] at hno
  have hTL : blobB o true srs s = blobL o true srs s b := by unfold blobB; rw [if_pos ⟨hck, hsr⟩, hbe]
  rw [hTL] at hT
  have HLEN : Hid (40 ≤ (blobL o true srs s b).length ∧ (blobL o true srs s b).length < 100040) := Lib.hid ⟨hT, (blobL_len hck).2⟩
  have HBY := Lib.hid (bytes_blobL o true srs s b)
  have HFL : Hid (s.flat.length < 1000000) := Lib.hid (by have := (MRead.check_is hck).2.2.1; omega)
  have HRF1 : Hid (∀ W', Bel w W' → Calls Tryd.prog 47 #[.agg #[.int .i64 kd, .slice u1 u2 u3, .slice u4 u5 u6]] W' fun e w' => e = .returned (.agg #[.bool false, .int .i64 b.lx, .int .i64 b.ly, .int .i64 b.hx, .int .i64 b.hy]) ∧ Bel W' w') := Lib.hid (fun W' h => by have := HRF.out W' h.size (HS.out.keep (KeepB.bel h)) HFL.out; rw [hbe, hno] at this; exact this)
  have HF3 : Hid ((blobL o true srs s b).getD 3 0 = flagsV o (true && !b.no) b.no) := Lib.hid rfl
  have HLOW : Hid (∃ e, e ≠ 0 ∧ openS boxOf ((blobL o true srs s b).set 3 (flagsV (!o) (true && !b.no) b.no)) = .bad e) := Lib.hid (lie_low hck HOK.out srs o true hbe)
  have HNON : Hid (∃ e, e ≠ 0 ∧ openS boxOf ((blobL o true srs s b).set 3 (flagsV o (true && !b.no) (!b.no))) = .bad e) := Lib.hid (lie_none hck HOK.out srs o true hbe)
  have HBOX : Hid (∀ j v, j < 32 → 0 ≤ v ∧ v < 256 → v ≠ (blobL o true srs s b).getD (8 + j) 0 → ∃ e, e ≠ 0 ∧ openS boxOf ((blobL o true srs s b).set (8 + j) v) = .bad e) := Lib.hid (fun j v hj hv hne => lie_box hck HOK.out srs o hbe hno hj hv hne)
  have HXO := Lib.hid (xor_flag o (true && !b.no) b.no)
  have HFR : Hid ((0 ≤ flagsV (!o) (true && !b.no) b.no ∧ flagsV (!o) (true && !b.no) b.no < 256) ∧ (0 ≤ flagsV o (true && !b.no) (!b.no) ∧ flagsV o (true && !b.no) (!b.no) < 256)) := Lib.hid ⟨flagsV_in _ _ _, flagsV_in _ _ _⟩
  have HTLL := Lib.hid hTL
  clear hsr hck hbe HRF hno hT hTL
  clear hs hF hN hw2 hok hn
  have S := (Blk.new w #[.int .i64 kd, .slice u1 u2 u3, .slice u4 u5 u6] 25).alloc (.cells #[.int .i64 srs, .bool o, .bool bx] 53)
  have H := Blk.new_at (W := w.alloc (.cells #[.int .i64 kd, .slice u1 u2 u3, .slice u4 u5 u6] 25)) (g := w.heap.size + 1) (by simp) #[.int .i64 srs, .bool o, .bool bx] 53
  have HB : Hid (Bel w ((w.alloc (.cells #[.int .i64 kd, .slice u1 u2 u3, .slice u4 u5 u6] 25)).alloc (.cells #[.int .i64 srs, .bool o, .bool bx] 53))) := Lib.hid (((Bel.refl w).alloc (Nat.le_refl _) _).alloc (by simp) _)
  have HLV : Hid (∀ W', Bel w W' → Calls Tryd.prog 40 #[] W' fun e w'' => e = .returned (.bool true) ∧ Bel W' w'') := Lib.hid (fun W' h => lives16 W' (Nat.le_trans HGL.out.2.2 h.size) (HGL.out.1.bel h) (HGL.out.2.1.below HGL.out.2.2 h))
  have HE1 : Hid (∀ bx W', Bel w W' → Calls Tryd.prog 39 #[.agg #[.int .i64 kd, .slice u1 u2 u3, .slice u4 u5 u6], .int .i64 srs, .bool o, .bool bx] W' fun e w'' => ∃ v, e = .returned v ∧ Hid (RB W' w'' v (blobB o bx srs s)) ∧ Hid (Bel W' w'')) := Lib.hid (fun bx W' h => HE.out bx W' h.size (Nat.le_trans HGL.out.2.2 h.size) (HS.out.keep (KeepB.bel h)) (HGL.out.1.bel h) (HGL.out.2.1.below HGL.out.2.2 h))
  go_enter Tryd.func13, Tryd.ntmps13
  go_upto_region 1 with (fail)
  obtain ⟨W1, hW⟩ : ∃ X, (w.alloc (.cells #[.int .i64 kd, .slice u1 u2 u3, .slice u4 u5 u6] 25)).alloc (.cells #[.int .i64 srs, .bool o, .bool bx] 53) = X := ⟨_, rfl⟩
  rw [hW] at S H HB ⊢
  clear hW
  obtain ⟨gs, hg⟩ : ∃ X, w.heap.size = X := ⟨_, rfl⟩
  have HGS := Lib.hid hg
  rw [hg] at S H ⊢
  obtain ⟨gh, hg2⟩ : ∃ X, gs + 1 = X := ⟨_, rfl⟩
  rw [hg2] at H ⊢
  have HGH := Lib.hid hg2
  clear hg hg2
  obtain ⟨s0, s1, s2⟩ := Blk.cells3 S
  obtain ⟨h0, h1, h2⟩ := Blk.cells3 H
  have HSB := Lib.hid S
  have HHB := Lib.hid H
  clear S H HE
  have hkf := HHB.out.froz 2
  go_upto_region 2 with (fail)
  have HW1 : Hid (Blk (W1.setCell ⟨gh, 2, none⟩ (.bool true)) gh #[.int .i64 srs, .bool o, .bool true] 53) := Lib.hid (HHB.out.set 2 (.bool true))
  have HS1 : Hid (Blk (W1.setCell ⟨gh, 2, none⟩ (.bool true)) gs #[.int .i64 kd, .slice u1 u2 u3, .slice u4 u5 u6] 25) := Lib.hid (HSB.out.set_ne (by have := HGH.out; omega) (.bool true))
  have HB1 : Hid (Bel w (W1.setCell ⟨gh, 2, none⟩ (.bool true))) := Lib.hid (below_set HB.out (by have := HGH.out; have := HGS.out; omega) (.bool true))
  obtain ⟨W2, hW⟩ : ∃ Y, W1.setCell ⟨gh, 2, none⟩ (.bool true) = Y := ⟨_, rfl⟩
  rw [hW] at HW1 HS1 HB1 ⊢
  clear hW hkf s0 s1 s2 h0 h1 h2 HSB HHB
  obtain ⟨s0, s1, s2⟩ := Blk.cells3 (HS1.out.alloc (.cells #[] 5))
  obtain ⟨h0, h1, h2⟩ := Blk.cells3 (HW1.out.alloc (.cells #[] 5))
  obtain ⟨T, hTT⟩ : ∃ T, blobL o true srs s b = T := ⟨_, rfl⟩
  have hTL := HTLL.out
  rw [hTT] at HLEN HBY HF3 HLOW HNON HBOX hTL
  have HE2 : Hid (∀ W', Bel w W' → Calls Tryd.prog 39 #[.agg #[.int .i64 kd, .slice u1 u2 u3, .slice u4 u5 u6], .int .i64 srs, .bool o, .bool true] W' fun e w'' => ∃ v, e = .returned v ∧ Hid (RB W' w'' v T) ∧ Hid (Bel W' w'')) := Lib.hid (fun W' h => by have := HE1.out true W' h; rw [hTL] at this; exact this)
  have HLT : Hid (T.length < 100040) := Lib.hid HLEN.out.2
  clear hTT HE1 hTL HTLL
  obtain ⟨f, hf⟩ : ∃ f, flagsV o (true && !b.no) b.no = f := ⟨_, rfl⟩
  obtain ⟨f1, hf1⟩ : ∃ f, flagsV (!o) (true && !b.no) b.no = f := ⟨_, rfl⟩
  obtain ⟨f2, hf2⟩ : ∃ f, flagsV o (true && !b.no) (!b.no) = f := ⟨_, rfl⟩
  rw [hf] at HF3 HXO
  rw [hf1] at HLOW HXO HFR
  rw [hf2] at HNON HXO HFR
  clear hf hf1 hf2
  go_upto_region 3 with (first
    | (at_builtin; refine appN (w0 := W2) (.tmp 22) (.tmp 28) rfl rfl (.slice (some ⟨W2.heap.size, 0, none⟩) 0 0) [] T A cap rfl rfl ((RB.lit0 (Nat.le_refl _)).below hb2.out) hC (bthen ((Bel.refl W2).alloc (Nat.le_refl _) _) hb2.out) (by have := HLT.out; simp; omega) ?_
       intro v3 w3 hr3 hb3)
    | (go_at_call 39; refine (HE2.out _ (HB1.out.alloc HB1.out.size _)).mono ?_; rintro e w2 ⟨v2, rfl, hr2, hb2⟩; obtain ⟨A, cap, hv2, hcap, hC⟩ := hr2.out.reads; subst hv2))
  obtain ⟨A3, c3, hv3, hc3, hC3⟩ := hr3.out.reads
  rw [List.nil_append] at hv3 hc3 hC3
  have HC3 := Lib.hid hC3
  obtain ⟨t, ht⟩ : ∃ t, T.length = t := ⟨_, rfl⟩
  rw [ht] at hv3 hc3 HLEN HLT
  have HT := Lib.hid ht
  have HCC := Lib.hid hc3
  subst hv3
  have B3 := Lib.hid (bthen HB1.out hb3.out)
  have HS3 := Lib.hid (Blk.bel HS1.out hb3.out)
  have hge : ¬ (t : Int) < 40 := by have := HLEN.out.1; omega
  clear hC3 hc3 ht s0 s1 s2 h0 h1 h2 hr2 hb2 hcap hC hr3 hb3
  go_upto_region 5 with (fail)
  clear hge
  go_upto_region 6 with (at_builtin; refine appN (w0 := w3) (.tmp 34) (.tmp 35) rfl rfl (.slice (some ⟨w3.heap.size, 0, none⟩) 0 0) [] T A3 c3 rfl (by rw [HT.out]; rfl) (RB.lit0 (Nat.le_refl _)) (HC3.out.alloc _) ((Below.refl _ w3).alloc (Nat.le_refl _) _) (by rw [HT.out]; have := HLT.out; simp; omega) ?_; intro v4 w4 hr4 hb4)
  obtain ⟨g, cx, cur, hv4, hcx, hcur, hcs, hg⟩ := RB.opens16 hr4.out (by rw [List.nil_append, HT.out]; have := HLEN.out.1; omega)
  have HR4 : Hid (RB w3 w4 (.slice (some ⟨g, 0, none⟩) T.length cx) T) := Lib.hid (by have := hr4.out; rw [hv4, List.nil_append] at this; exact this)
  rw [List.nil_append, HT.out] at hv4 hcx
  subst hv4
  have HG4 := Lib.hid hg
  have HS4 := Lib.hid (Blk.bel HS3.out hb4.out)
  have B4 := Lib.hid (bthen B3.out hb4.out)
  have HC4 := Lib.hid (HC3.out.below hb4.out)
  have HB34 := hb4
  obtain ⟨s0, s1, s2⟩ := Blk.cells3 HS4.out
  clear hr4 hb4 hcur hcs hg hcx
  obtain ⟨j, hj⟩ : ∃ j : Nat, (j : Int) = n % 32 := ⟨(n % 32).toNat, by omega⟩
  obtain ⟨k, hk⟩ : ∃ k : Nat, k = 8 + j := ⟨_, rfl⟩
  have HJ : Hid (j < 32) := Lib.hid (by omega)
  have HK := Lib.hid hk
  obtain ⟨d, hd⟩ : ∃ d, n / 32 = d := ⟨_, rfl⟩
  obtain ⟨r, hr⟩ : ∃ r : Nat, (r : Int) = d % 8 := ⟨(d % 8).toNat, by omega⟩
  have HRR : Hid (r < 8) := Lib.hid (by omega)
  have hm1 : n.tmod 32 = j := by rw [hj]; exact Int.tmod_eq_emod_of_nonneg HNN.out.1
  have hm2 : IntKind.u64.wrap (j : Int) = j := by rw [IntKind.wrap_u64]; omega
  have hm3 : IntKind.i64.wrap (j : Int) = j := IntWalk.i64_in _ (by omega)
  have hm4 : IntKind.i64.wrap (8 + (j : Int)) = k := by rw [IntWalk.i64_in _ (by omega)]; omega
  have hm5 : n.tdiv 32 = d := by rw [← hd]; exact Int.tdiv_eq_ediv_of_nonneg HNN.out.1
  have hm6 : IntKind.u64.wrap d = d := by rw [IntKind.wrap_u64]; have := HNN.out; omega
  have hm7 : d.tmod 8 = r := by rw [hr]; exact Int.tmod_eq_emod_of_nonneg (by have := HNN.out.1; omega)
  have hm8 : IntKind.u64.wrap (r : Int) = r := by rw [IntKind.wrap_u64]; omega
  clear hj hk hd hr
  have hfl := bfield0 false b.lx b.ly b.hx b.hy
  go_upto_region 8 with (go_at_call 47; refine (HRF1.out _ B4.out).mono ?_; rintro e w5 ⟨rfl, b5⟩)
  obtain ⟨g', cx', cur, hv', hcx, hcur, hcs, hg⟩ := RB.opens16 (HR4.out.below b5) (by rw [HT.out]; have := HLEN.out.1; omega)
  injection hv' with e1 e2 e3
  injection e1 with e1
  injection e1 with e1 e4 e5
  subst e1 e3
  have HR5 : Hid (RB w3 w5 (.slice (some ⟨g, 0, none⟩) t cx) T) := Lib.hid (by have := HR4.out.below b5; rw [HT.out] at this; exact this)
  have hlt1 : (k : Int) < t := by have := HK.out; have := HJ.out; have := HLEN.out.1; omega
  have hlt2 : k < t := by omega
  obtain ⟨q, hq⟩ : ∃ q, T.getD k 0 = q := ⟨_, rfl⟩
  have x0 := byte_at HR5.out HT.out hlt2 hq
  have HQ : Hid (0 ≤ q ∧ q < 256) := Lib.hid (by rw [← hq]; exact HBY.out _ (MOct.getD_mem T k (by rw [HT.out]; exact hlt2)))
  have hpw : (2 : Int) ^ min r 8 % 256 = 2 ^ r := by
    have hall : ∀ r : Fin 8, (2 : Int) ^ min r.val 8 % 256 = 2 ^ r.val := by decide
    exact hall ⟨r, HRR.out⟩
  have HXB := Lib.hid (xor_bit HQ.out HRR.out)
  obtain ⟨v, hv⟩ : ∃ v, Go.bits .xor .u8 q (2 ^ r) = v := ⟨_, rfl⟩
  rw [hv] at HXB
  have HQV : Hid (T.getD k 0 = q) := Lib.hid hq
  have fz := hcur.froz k
  have HB45 := Lib.hid b5
  clear s0 s1 s2 hq hcx hcur hcs hg b5
  go_upto_region 9 with (fail)
  try rw [hv]
  have HR6 := Lib.hid (byte_put (k := k) HR5.out v HT.out)
  have HB6 : Hid (Bel w3 (w5.setCell ⟨g, k, none⟩ (.int .u8 v))) := Lib.hid (below_set (bthen HB34.out HB45.out) HG4.out (.int .u8 v))
  obtain ⟨w6, hW⟩ : ∃ Y, w5.setCell ⟨g, k, none⟩ (.int .u8 v) = Y := ⟨_, rfl⟩
  rw [hW] at HR6 HB6 ⊢
  clear hW x0 fz hpw hv hlt1 hlt2 hm1 hm2 hm3 hm4 hm5 hm6 hm7 hm8 hfl
  have HX9 : Hid (∃ e, e ≠ 0 ∧ openS boxOf (T.set k v) = .bad e) := Lib.hid (by have h9 := HBOX.out j v HJ.out HXB.out.1 (by rw [← HK.out, HQV.out]; exact HXB.out.2); rw [← HK.out] at h9; exact h9)
  obtain ⟨e9, hne9, ho9⟩ := HX9.out
  have HNE9 := Lib.hid hne9
  have HOP9 := Lib.hid (open_row HR6.out (by rw [List.length_set]; exact HT.out) (bytes_set HBY.out HXB.out.1) (by have := HLEN.out.2; omega) (HGL.out.below (bthen B3.out HB6.out) HGL.out.2.2) ho9)
  clear hne9 ho9 HX9
  go_upto_region 10 with (go_at_call 46; refine (HOP9.out).mono ?_; rintro e w7 ⟨rfl, bo⟩)
  have HB8 : Hid (Bel w3 ((w7.alloc (.cells #[.int .i64 0, .bool false, .bool false, .bool false, .bool false, .int .i64 0, .int .i64 0, .int .i64 0, .int .i64 0] 69)).alloc (.cells #[.int .i64 0, .slice none 0 0, .slice none 0 0] 25))) := Lib.hid (bthen HB6.out (bthen bo (((Bel.refl w7).alloc (Nat.le_refl _) _).alloc (by simp) _)))
  obtain ⟨w8, hW⟩ : ∃ Y, ((w7.alloc (.cells #[.int .i64 0, .bool false, .bool false, .bool false, .bool false, .int .i64 0, .int .i64 0, .int .i64 0, .int .i64 0] 69)).alloc (.cells #[.int .i64 0, .slice none 0 0, .slice none 0 0] 25)) = Y := ⟨_, rfl⟩
  rw [hW] at HB8 ⊢
  clear hW bo HOP9
  have HC8 := Lib.hid (HC3.out.below HB8.out)
  have B8 := Lib.hid (bthen B3.out HB8.out)
  go_upto_region 11 with (at_builtin; refine appN (w0 := w8) (.tmp 61) (.tmp 62) rfl rfl (.slice (some ⟨w8.heap.size, 0, none⟩) 0 0) [] T A3 c3 rfl (by rw [HT.out]; rfl) (RB.lit0 (Nat.le_refl _)) (HC8.out.alloc _) ((Below.refl _ w8).alloc (Nat.le_refl _) _) (by rw [HT.out]; have := HLT.out; simp; omega) ?_; intro vy y1 ry hby)
  obtain ⟨gy, cy, cury, hvy, hcx, hcur, hcs, hg⟩ := RB.opens16 ry.out (by rw [List.nil_append, HT.out]; have := HLEN.out.1; omega)
  have HRy : Hid (RB w8 y1 (.slice (some ⟨gy, 0, none⟩) t cy) T) := Lib.hid (by have := ry.out; rw [hvy, List.nil_append, HT.out] at this; exact this)
  rw [List.nil_append, HT.out] at hvy hcx
  subst hvy
  have hlt1 : (3 : Int) < t := by have := HLEN.out.1; omega
  have hlt2 : 3 < t := by omega
  have x0 := byte_at HRy.out HT.out hlt2 HF3.out
  have fz := hcur.froz 3
  have hxo := HXO.out.1
  have HGyy := Lib.hid hg
  clear hcx hcur hcs hg
  go_upto_region 12 with (fail)
  try rw [hxo]
  have HSy := Lib.hid (byte_put (k := 3) HRy.out f1 HT.out)
  have HTy : Hid (Bel w3 (y1.setCell ⟨gy, 3, none⟩ (.int .u8 f1))) := Lib.hid (bthen HB8.out (below_set hby.out HGyy.out (.int .u8 f1)))
  obtain ⟨y2, hW⟩ : ∃ Y, y1.setCell ⟨gy, 3, none⟩ (.int .u8 f1) = Y := ⟨_, rfl⟩
  rw [hW] at HSy HTy ⊢
  clear hW x0 fz hxo hlt1 hlt2 ry hby
  obtain ⟨ey, hney, hoy⟩ := HLOW.out
  have HNEy := Lib.hid hney
  have HOPy := Lib.hid (open_row HSy.out (by rw [List.length_set]; exact HT.out) (bytes_set HBY.out HFR.out.1) (by have := HLEN.out.2; omega) (HGL.out.below (bthen B3.out HTy.out) HGL.out.2.2) hoy)
  clear hney hoy
  go_upto_region 13 with (go_at_call 46; refine (HOPy.out).mono ?_; rintro e y3 ⟨rfl, bo⟩)
  have HUy : Hid (Bel w3 ((y3.alloc (.cells #[.int .i64 0, .bool false, .bool false, .bool false, .bool false, .int .i64 0, .int .i64 0, .int .i64 0, .int .i64 0] 69)).alloc (.cells #[.int .i64 0, .slice none 0 0, .slice none 0 0] 25))) := Lib.hid (bthen HTy.out (bthen bo (((Bel.refl y3).alloc (Nat.le_refl _) _).alloc (by simp) _)))
  obtain ⟨y4, hW⟩ : ∃ Y, ((y3.alloc (.cells #[.int .i64 0, .bool false, .bool false, .bool false, .bool false, .int .i64 0, .int .i64 0, .int .i64 0, .int .i64 0] 69)).alloc (.cells #[.int .i64 0, .slice none 0 0, .slice none 0 0] 25)) = Y := ⟨_, rfl⟩
  rw [hW] at HUy ⊢
  clear hW bo HOPy
  have HCy := Lib.hid (HC3.out.below HUy.out)
  go_upto_region 14 with (at_builtin; refine appN (w0 := y4) (.tmp 75) (.tmp 76) rfl rfl (.slice (some ⟨y4.heap.size, 0, none⟩) 0 0) [] T A3 c3 rfl (by rw [HT.out]; rfl) (RB.lit0 (Nat.le_refl _)) (HCy.out.alloc _) ((Below.refl _ y4).alloc (Nat.le_refl _) _) (by rw [HT.out]; have := HLT.out; simp; omega) ?_; intro vz z1 rz hbz)
  obtain ⟨gz, cz, curz, hvz, hcx, hcur, hcs, hg⟩ := RB.opens16 rz.out (by rw [List.nil_append, HT.out]; have := HLEN.out.1; omega)
  have HRz : Hid (RB y4 z1 (.slice (some ⟨gz, 0, none⟩) t cz) T) := Lib.hid (by have := rz.out; rw [hvz, List.nil_append, HT.out] at this; exact this)
  rw [List.nil_append, HT.out] at hvz hcx
  subst hvz
  have hlt1 : (3 : Int) < t := by have := HLEN.out.1; omega
  have hlt2 : 3 < t := by omega
  have x0 := byte_at HRz.out HT.out hlt2 HF3.out
  have fz := hcur.froz 3
  have hxo := HXO.out.2
  have HGyz := Lib.hid hg
  clear hcx hcur hcs hg
  go_upto_region 15 with (fail)
  try rw [hxo]
  have HSz := Lib.hid (byte_put (k := 3) HRz.out f2 HT.out)
  have HTz : Hid (Bel w3 (z1.setCell ⟨gz, 3, none⟩ (.int .u8 f2))) := Lib.hid (bthen HUy.out (below_set hbz.out HGyz.out (.int .u8 f2)))
  obtain ⟨z2, hW⟩ : ∃ Y, z1.setCell ⟨gz, 3, none⟩ (.int .u8 f2) = Y := ⟨_, rfl⟩
  rw [hW] at HSz HTz ⊢
  clear hW x0 fz hxo hlt1 hlt2 rz hbz
  obtain ⟨ez, hnez, hoz⟩ := HNON.out
  have HNEz := Lib.hid hnez
  have HOPz := Lib.hid (open_row HSz.out (by rw [List.length_set]; exact HT.out) (bytes_set HBY.out HFR.out.2) (by have := HLEN.out.2; omega) (HGL.out.below (bthen B3.out HTz.out) HGL.out.2.2) hoz)
  clear hnez hoz
  go_upto_region 16 with (go_at_call 46; refine (HOPz.out).mono ?_; rintro e z3 ⟨rfl, bo⟩)
  have HUz : Hid (Bel w3 ((z3.alloc (.cells #[.int .i64 0, .bool false, .bool false, .bool false, .bool false, .int .i64 0, .int .i64 0, .int .i64 0, .int .i64 0] 69)).alloc (.cells #[.int .i64 0, .slice none 0 0, .slice none 0 0] 25))) := Lib.hid (bthen HTz.out (bthen bo (((Bel.refl z3).alloc (Nat.le_refl _) _).alloc (by simp) _)))
  obtain ⟨z4, hW⟩ : ∃ Y, ((z3.alloc (.cells #[.int .i64 0, .bool false, .bool false, .bool false, .bool false, .int .i64 0, .int .i64 0, .int .i64 0, .int .i64 0] 69)).alloc (.cells #[.int .i64 0, .slice none 0 0, .slice none 0 0] 25)) = Y := ⟨_, rfl⟩
  rw [hW] at HUz ⊢
  clear hW bo HOPz
  have BF := Lib.hid (bthen B3.out HUz.out)
  have hz9 : (e9 == 0) = false := by simpa using HNE9.out
  have hzy : (ey == 0) = false := by simpa using HNEy.out
  have hzz : (ez == 0) = false := by simpa using HNEz.out
  go_wp2_with (go_at_call 40; refine (HLV.out _ BF.out).mono ?_; rintro e w14 ⟨rfl, b14⟩; have B14 := Lib.hid b14; clear b14)
  go_ret
  exact ⟨by first | rfl | simp [HNE9.out, HNEy.out, HNEz.out], bthen BF.out B14.out⟩
set_option maxHeartbeats 8000000 in
set_option maxRecDepth 100000 in
theorem lies_none (D : Nat) (s : Sh) (c : Value × Value × Value) (srs : Int) (o bx : Bool) (n : Int) (w : World) (hn : 0 ≤ n ∧ n < 18446744073709551616) (hw2 : 2 ≤ w.heap.size) (hs : ShB w.heap.size w D c s) (hok : shOk s) (hF : FormsAt w) (hN : NowAt w) (hck : MShape.check s = 0) (hsr : srsOk srs = true) (hno : (boxOf s.flat).no = true) (hT : 40 ≤ (blobB o true srs s).length) :
    Calls Tryd.prog 13 #[.agg #[c.1, c.2.1, c.2.2], .agg #[.int .i64 srs, .bool o, .bool bx], .int .u64 n] w fun e w' => e = .returned (.bool true) ∧ Bel w w' := by
  have HE := Lib.hid (fun bx W h1 h2 h3 h4 h5 => make_calls D s c srs o bx W w.heap.size h1 h2 h3 h4 h5)
  have HRF := Lib.hid (fun W h1 h2 h3 => refOf_calls D s c W w.heap.size h1 h2 h3)
  have HS := Lib.hid hs
  have HOK : Hid (inS s) := Lib.hid (flat_in hok)
  obtain ⟨kd, u1, u2, u3, u4, u5, u6, rfl⟩ := hs.forms
  dsimp only at HE HRF HS ⊢
  have HGL : Hid (Gl w) := Lib.hid ⟨hF, hN, hw2⟩
  have HNN := Lib.hid hn
  obtain ⟨b, hbe⟩ : ∃ b, boxOf s.flat = b := ⟨_, rfl⟩
  rw [hbe] at hno
  have hTL : blobB o true srs s = blobL o true srs s b := by unfold blobB; rw [if_pos ⟨hck, hsr⟩, hbe]
  rw [hTL] at hT
  have HLEN : Hid (40 ≤ (blobL o true srs s b).length ∧ (blobL o true srs s b).length < 100040) := Lib.hid ⟨hT, (blobL_len hck).2⟩
  have HBY := Lib.hid (bytes_blobL o true srs s b)
  have HFL : Hid (s.flat.length < 1000000) := Lib.hid (by have := (MRead.check_is hck).2.2.1; omega)
  have HRF1 : Hid (∀ W', Bel w W' → Calls Tryd.prog 47 #[.agg #[.int .i64 kd, .slice u1 u2 u3, .slice u4 u5 u6]] W' fun e w' => e = .returned (.agg #[.bool true, .int .i64 b.lx, .int .i64 b.ly, .int .i64 b.hx, .int .i64 b.hy]) ∧ Bel W' w') := Lib.hid (fun W' h => by have := HRF.out W' h.size (HS.out.keep (KeepB.bel h)) HFL.out; rw [hbe, hno] at this; exact this)
  have HF3 : Hid ((blobL o true srs s b).getD 3 0 = flagsV o (true && !b.no) b.no) := Lib.hid rfl
  have HLOW : Hid (∃ e, e ≠ 0 ∧ openS boxOf ((blobL o true srs s b).set 3 (flagsV (!o) (true && !b.no) b.no)) = .bad e) := Lib.hid (lie_low hck HOK.out srs o true hbe)
  have HNON : Hid (∃ e, e ≠ 0 ∧ openS boxOf ((blobL o true srs s b).set 3 (flagsV o (true && !b.no) (!b.no))) = .bad e) := Lib.hid (lie_none hck HOK.out srs o true hbe)
  have HGD : Hid (∃ hd, openS boxOf (blobL o true srs s b) = .ok hd s) := Lib.hid ⟨_, by have := open_blob hck HOK.out hsr o true; rw [hbe] at this; exact this⟩
  have HXO := Lib.hid (xor_flag o (true && !b.no) b.no)
  have HFR : Hid ((0 ≤ flagsV (!o) (true && !b.no) b.no ∧ flagsV (!o) (true && !b.no) b.no < 256) ∧ (0 ≤ flagsV o (true && !b.no) (!b.no) ∧ flagsV o (true && !b.no) (!b.no) < 256)) := Lib.hid ⟨flagsV_in _ _ _, flagsV_in _ _ _⟩
  have HTLL := Lib.hid hTL
  clear hsr hck hbe HRF hno hT hTL
  clear hs hF hN hw2 hok hn
  have S := (Blk.new w #[.int .i64 kd, .slice u1 u2 u3, .slice u4 u5 u6] 25).alloc (.cells #[.int .i64 srs, .bool o, .bool bx] 53)
  have H := Blk.new_at (W := w.alloc (.cells #[.int .i64 kd, .slice u1 u2 u3, .slice u4 u5 u6] 25)) (g := w.heap.size + 1) (by simp) #[.int .i64 srs, .bool o, .bool bx] 53
  have HB : Hid (Bel w ((w.alloc (.cells #[.int .i64 kd, .slice u1 u2 u3, .slice u4 u5 u6] 25)).alloc (.cells #[.int .i64 srs, .bool o, .bool bx] 53))) := Lib.hid (((Bel.refl w).alloc (Nat.le_refl _) _).alloc (by simp) _)
  have HLV : Hid (∀ W', Bel w W' → Calls Tryd.prog 40 #[] W' fun e w'' => e = .returned (.bool true) ∧ Bel W' w'') := Lib.hid (fun W' h => lives16 W' (Nat.le_trans HGL.out.2.2 h.size) (HGL.out.1.bel h) (HGL.out.2.1.below HGL.out.2.2 h))
  have HE1 : Hid (∀ bx W', Bel w W' → Calls Tryd.prog 39 #[.agg #[.int .i64 kd, .slice u1 u2 u3, .slice u4 u5 u6], .int .i64 srs, .bool o, .bool bx] W' fun e w'' => ∃ v, e = .returned v ∧ Hid (RB W' w'' v (blobB o bx srs s)) ∧ Hid (Bel W' w'')) := Lib.hid (fun bx W' h => HE.out bx W' h.size (Nat.le_trans HGL.out.2.2 h.size) (HS.out.keep (KeepB.bel h)) (HGL.out.1.bel h) (HGL.out.2.1.below HGL.out.2.2 h))
  go_enter Tryd.func13, Tryd.ntmps13
  go_upto_region 1 with (fail)
  obtain ⟨W1, hW⟩ : ∃ X, (w.alloc (.cells #[.int .i64 kd, .slice u1 u2 u3, .slice u4 u5 u6] 25)).alloc (.cells #[.int .i64 srs, .bool o, .bool bx] 53) = X := ⟨_, rfl⟩
  rw [hW] at S H HB ⊢
  clear hW
  obtain ⟨gs, hg⟩ : ∃ X, w.heap.size = X := ⟨_, rfl⟩
  have HGS := Lib.hid hg
  rw [hg] at S H ⊢
  obtain ⟨gh, hg2⟩ : ∃ X, gs + 1 = X := ⟨_, rfl⟩
  rw [hg2] at H ⊢
  have HGH := Lib.hid hg2
  clear hg hg2
  obtain ⟨s0, s1, s2⟩ := Blk.cells3 S
  obtain ⟨h0, h1, h2⟩ := Blk.cells3 H
  have HSB := Lib.hid S
  have HHB := Lib.hid H
  clear S H HE
  have hkf := HHB.out.froz 2
  go_upto_region 2 with (fail)
  have HW1 : Hid (Blk (W1.setCell ⟨gh, 2, none⟩ (.bool true)) gh #[.int .i64 srs, .bool o, .bool true] 53) := Lib.hid (HHB.out.set 2 (.bool true))
  have HS1 : Hid (Blk (W1.setCell ⟨gh, 2, none⟩ (.bool true)) gs #[.int .i64 kd, .slice u1 u2 u3, .slice u4 u5 u6] 25) := Lib.hid (HSB.out.set_ne (by have := HGH.out; omega) (.bool true))
  have HB1 : Hid (Bel w (W1.setCell ⟨gh, 2, none⟩ (.bool true))) := Lib.hid (below_set HB.out (by have := HGH.out; have := HGS.out; omega) (.bool true))
  obtain ⟨W2, hW⟩ : ∃ Y, W1.setCell ⟨gh, 2, none⟩ (.bool true) = Y := ⟨_, rfl⟩
  rw [hW] at HW1 HS1 HB1 ⊢
  clear hW hkf s0 s1 s2 h0 h1 h2 HSB HHB
  obtain ⟨s0, s1, s2⟩ := Blk.cells3 (HS1.out.alloc (.cells #[] 5))
  obtain ⟨h0, h1, h2⟩ := Blk.cells3 (HW1.out.alloc (.cells #[] 5))
  obtain ⟨T, hTT⟩ : ∃ T, blobL o true srs s b = T := ⟨_, rfl⟩
  have hTL := HTLL.out
  rw [hTT] at HLEN HBY HF3 HLOW HNON HGD hTL
  have HE2 : Hid (∀ W', Bel w W' → Calls Tryd.prog 39 #[.agg #[.int .i64 kd, .slice u1 u2 u3, .slice u4 u5 u6], .int .i64 srs, .bool o, .bool true] W' fun e w'' => ∃ v, e = .returned v ∧ Hid (RB W' w'' v T) ∧ Hid (Bel W' w'')) := Lib.hid (fun W' h => by have := HE1.out true W' h; rw [hTL] at this; exact this)
  have HLT : Hid (T.length < 100040) := Lib.hid HLEN.out.2
  clear hTT HE1 hTL HTLL
  obtain ⟨f, hf⟩ : ∃ f, flagsV o (true && !b.no) b.no = f := ⟨_, rfl⟩
  obtain ⟨f1, hf1⟩ : ∃ f, flagsV (!o) (true && !b.no) b.no = f := ⟨_, rfl⟩
  obtain ⟨f2, hf2⟩ : ∃ f, flagsV o (true && !b.no) (!b.no) = f := ⟨_, rfl⟩
  rw [hf] at HF3 HXO
  rw [hf1] at HLOW HXO HFR
  rw [hf2] at HNON HXO HFR
  clear hf hf1 hf2
  go_upto_region 3 with (first
    | (at_builtin; refine appN (w0 := W2) (.tmp 22) (.tmp 28) rfl rfl (.slice (some ⟨W2.heap.size, 0, none⟩) 0 0) [] T A cap rfl rfl ((RB.lit0 (Nat.le_refl _)).below hb2.out) hC (bthen ((Bel.refl W2).alloc (Nat.le_refl _) _) hb2.out) (by have := HLT.out; simp; omega) ?_
       intro v3 w3 hr3 hb3)
    | (go_at_call 39; refine (HE2.out _ (HB1.out.alloc HB1.out.size _)).mono ?_; rintro e w2 ⟨v2, rfl, hr2, hb2⟩; obtain ⟨A, cap, hv2, hcap, hC⟩ := hr2.out.reads; subst hv2))
  obtain ⟨A3, c3, hv3, hc3, hC3⟩ := hr3.out.reads
  rw [List.nil_append] at hv3 hc3 hC3
  have HC3 := Lib.hid hC3
  obtain ⟨t, ht⟩ : ∃ t, T.length = t := ⟨_, rfl⟩
  rw [ht] at hv3 hc3 HLEN HLT
  have HT := Lib.hid ht
  have HCC := Lib.hid hc3
  subst hv3
  have B3 := Lib.hid (bthen HB1.out hb3.out)
  have HS3 := Lib.hid (Blk.bel HS1.out hb3.out)
  have hge : ¬ (t : Int) < 40 := by have := HLEN.out.1; omega
  clear hC3 hc3 ht s0 s1 s2 h0 h1 h2 hr2 hb2 hcap hC hr3 hb3
  go_upto_region 5 with (fail)
  clear hge
  go_upto_region 6 with (at_builtin; refine appN (w0 := w3) (.tmp 34) (.tmp 35) rfl rfl (.slice (some ⟨w3.heap.size, 0, none⟩) 0 0) [] T A3 c3 rfl (by rw [HT.out]; rfl) (RB.lit0 (Nat.le_refl _)) (HC3.out.alloc _) ((Below.refl _ w3).alloc (Nat.le_refl _) _) (by rw [HT.out]; have := HLT.out; simp; omega) ?_; intro v4 w4 hr4 hb4)
  obtain ⟨g, cx, cur, hv4, hcx, hcur, hcs, hg⟩ := RB.opens16 hr4.out (by rw [List.nil_append, HT.out]; have := HLEN.out.1; omega)
  have HR4 : Hid (RB w3 w4 (.slice (some ⟨g, 0, none⟩) T.length cx) T) := Lib.hid (by have := hr4.out; rw [hv4, List.nil_append] at this; exact this)
  rw [List.nil_append, HT.out] at hv4 hcx
  subst hv4
  have HG4 := Lib.hid hg
  have HS4 := Lib.hid (Blk.bel HS3.out hb4.out)
  have B4 := Lib.hid (bthen B3.out hb4.out)
  have HC4 := Lib.hid (HC3.out.below hb4.out)
  have HB34 := hb4
  obtain ⟨s0, s1, s2⟩ := Blk.cells3 HS4.out
  clear hr4 hb4 hcur hcs hg hcx
  have hfl := bfield0 true b.lx b.ly b.hx b.hy
  go_upto_region 9 with (go_at_call 47; refine (HRF1.out _ B4.out).mono ?_; rintro e w5 ⟨rfl, b5⟩)
  have HR5 : Hid (RB w3 w5 (.slice (some ⟨g, 0, none⟩) t cx) T) := Lib.hid (by have := HR4.out.below b5; rw [HT.out] at this; exact this)
  have HB5 := Lib.hid (bthen HB34.out b5)
  obtain ⟨hd, hgd⟩ := HGD.out
  have HOP9 : Hid (Calls Tryd.prog 46 #[.slice (some ⟨g, 0, none⟩) t cx] w5 fun ex w' => ∃ k0 B1 m1 e1 B2 m2 e2, ex = .returned (.tuple #[.agg #[.int .i64 hd.srs, .bool hd.low, .bool hd.bx, .bool hd.em, .bool hd.box.no, .int .i64 hd.box.lx, .int .i64 hd.box.ly, .int .i64 hd.box.hx, .int .i64 hd.box.hy], .agg #[.int .i64 k0, .slice B1 m1 e1, .slice B2 m2 e2], .int .i64 0]) ∧ Hid (KW.M w' w5.heap.size (fun _ => True) s [.int .i64 k0, .slice B1 m1 e1, .slice B2 m2 e2]) ∧ Hid (Bel w5 w')) := Lib.hid (by
    obtain ⟨A9, c9, h9, h10, h11⟩ := HR5.out.reads
    injection h9 with e1 e2 e3
    subst e1 e3
    have := open_good w5 _ cx T h11 h10 HBY.out (by have := HLEN.out.2; rw [HT.out]; omega) (HGL.out.below (bthen B3.out HB5.out) HGL.out.2.2) hgd
    rw [HT.out] at this
    exact this)
  clear s0 s1 s2 b5 hgd
  go_upto_region 10 with (go_at_call 46; refine (HOP9.out).mono ?_; rintro e w7 ⟨k0, B1, m1, e1, B2', m2, e2, rfl, hM, bo⟩)
  have HB8 : Hid (Bel w3 ((w7.alloc (.cells #[.int .i64 hd.srs, .bool hd.low, .bool hd.bx, .bool hd.em, .bool hd.box.no, .int .i64 hd.box.lx, .int .i64 hd.box.ly, .int .i64 hd.box.hx, .int .i64 hd.box.hy] 69)).alloc (.cells #[.int .i64 k0, .slice B1 m1 e1, .slice B2' m2 e2] 25))) := Lib.hid (bthen HB5.out (bthen bo.out (((Bel.refl w7).alloc (Nat.le_refl _) _).alloc (by simp) _)))
  obtain ⟨w8, hW⟩ : ∃ Y, ((w7.alloc (.cells #[.int .i64 hd.srs, .bool hd.low, .bool hd.bx, .bool hd.em, .bool hd.box.no, .int .i64 hd.box.lx, .int .i64 hd.box.ly, .int .i64 hd.box.hx, .int .i64 hd.box.hy] 69)).alloc (.cells #[.int .i64 k0, .slice B1 m1 e1, .slice B2' m2 e2] 25)) = Y := ⟨_, rfl⟩
  rw [hW] at HB8 ⊢
  clear hW bo HOP9 hM
  have HC8 := Lib.hid (HC3.out.below HB8.out)
  have B8 := Lib.hid (bthen B3.out HB8.out)
  go_upto_region 11 with (at_builtin; refine appN (w0 := w8) (.tmp 61) (.tmp 62) rfl rfl (.slice (some ⟨w8.heap.size, 0, none⟩) 0 0) [] T A3 c3 rfl (by rw [HT.out]; rfl) (RB.lit0 (Nat.le_refl _)) (HC8.out.alloc _) ((Below.refl _ w8).alloc (Nat.le_refl _) _) (by rw [HT.out]; have := HLT.out; simp; omega) ?_; intro vy y1 ry hby)
  obtain ⟨gy, cy, cury, hvy, hcx, hcur, hcs, hg⟩ := RB.opens16 ry.out (by rw [List.nil_append, HT.out]; have := HLEN.out.1; omega)
  have HRy : Hid (RB w8 y1 (.slice (some ⟨gy, 0, none⟩) t cy) T) := Lib.hid (by have := ry.out; rw [hvy, List.nil_append, HT.out] at this; exact this)
  rw [List.nil_append, HT.out] at hvy hcx
  subst hvy
  have hlt1 : (3 : Int) < t := by have := HLEN.out.1; omega
  have hlt2 : 3 < t := by omega
  have x0 := byte_at HRy.out HT.out hlt2 HF3.out
  have fz := hcur.froz 3
  have hxo := HXO.out.1
  have HGyy := Lib.hid hg
  clear hcx hcur hcs hg
  go_upto_region 12 with (fail)
  try rw [hxo]
  have HSy := Lib.hid (byte_put (k := 3) HRy.out f1 HT.out)
  have HTy : Hid (Bel w3 (y1.setCell ⟨gy, 3, none⟩ (.int .u8 f1))) := Lib.hid (bthen HB8.out (below_set hby.out HGyy.out (.int .u8 f1)))
  obtain ⟨y2, hW⟩ : ∃ Y, y1.setCell ⟨gy, 3, none⟩ (.int .u8 f1) = Y := ⟨_, rfl⟩
  rw [hW] at HSy HTy ⊢
  clear hW x0 fz hxo hlt1 hlt2 ry hby
  obtain ⟨ey, hney, hoy⟩ := HLOW.out
  have HNEy := Lib.hid hney
  have HOPy := Lib.hid (open_row HSy.out (by rw [List.length_set]; exact HT.out) (bytes_set HBY.out HFR.out.1) (by have := HLEN.out.2; omega) (HGL.out.below (bthen B3.out HTy.out) HGL.out.2.2) hoy)
  clear hney hoy
  go_upto_region 13 with (go_at_call 46; refine (HOPy.out).mono ?_; rintro e y3 ⟨rfl, bo⟩)
  have HUy : Hid (Bel w3 ((y3.alloc (.cells #[.int .i64 0, .bool false, .bool false, .bool false, .bool false, .int .i64 0, .int .i64 0, .int .i64 0, .int .i64 0] 69)).alloc (.cells #[.int .i64 0, .slice none 0 0, .slice none 0 0] 25))) := Lib.hid (bthen HTy.out (bthen bo (((Bel.refl y3).alloc (Nat.le_refl _) _).alloc (by simp) _)))
  obtain ⟨y4, hW⟩ : ∃ Y, ((y3.alloc (.cells #[.int .i64 0, .bool false, .bool false, .bool false, .bool false, .int .i64 0, .int .i64 0, .int .i64 0, .int .i64 0] 69)).alloc (.cells #[.int .i64 0, .slice none 0 0, .slice none 0 0] 25)) = Y := ⟨_, rfl⟩
  rw [hW] at HUy ⊢
  clear hW bo HOPy
  have HCy := Lib.hid (HC3.out.below HUy.out)
  go_upto_region 14 with (at_builtin; refine appN (w0 := y4) (.tmp 75) (.tmp 76) rfl rfl (.slice (some ⟨y4.heap.size, 0, none⟩) 0 0) [] T A3 c3 rfl (by rw [HT.out]; rfl) (RB.lit0 (Nat.le_refl _)) (HCy.out.alloc _) ((Below.refl _ y4).alloc (Nat.le_refl _) _) (by rw [HT.out]; have := HLT.out; simp; omega) ?_; intro vz z1 rz hbz)
  obtain ⟨gz, cz, curz, hvz, hcx, hcur, hcs, hg⟩ := RB.opens16 rz.out (by rw [List.nil_append, HT.out]; have := HLEN.out.1; omega)
  have HRz : Hid (RB y4 z1 (.slice (some ⟨gz, 0, none⟩) t cz) T) := Lib.hid (by have := rz.out; rw [hvz, List.nil_append, HT.out] at this; exact this)
  rw [List.nil_append, HT.out] at hvz hcx
  subst hvz
  have hlt1 : (3 : Int) < t := by have := HLEN.out.1; omega
  have hlt2 : 3 < t := by omega
  have x0 := byte_at HRz.out HT.out hlt2 HF3.out
  have fz := hcur.froz 3
  have hxo := HXO.out.2
  have HGyz := Lib.hid hg
  clear hcx hcur hcs hg
  go_upto_region 15 with (fail)
  try rw [hxo]
  have HSz := Lib.hid (byte_put (k := 3) HRz.out f2 HT.out)
  have HTz : Hid (Bel w3 (z1.setCell ⟨gz, 3, none⟩ (.int .u8 f2))) := Lib.hid (bthen HUy.out (below_set hbz.out HGyz.out (.int .u8 f2)))
  obtain ⟨z2, hW⟩ : ∃ Y, z1.setCell ⟨gz, 3, none⟩ (.int .u8 f2) = Y := ⟨_, rfl⟩
  rw [hW] at HSz HTz ⊢
  clear hW x0 fz hxo hlt1 hlt2 rz hbz
  obtain ⟨ez, hnez, hoz⟩ := HNON.out
  have HNEz := Lib.hid hnez
  have HOPz := Lib.hid (open_row HSz.out (by rw [List.length_set]; exact HT.out) (bytes_set HBY.out HFR.out.2) (by have := HLEN.out.2; omega) (HGL.out.below (bthen B3.out HTz.out) HGL.out.2.2) hoz)
  clear hnez hoz
  go_upto_region 16 with (go_at_call 46; refine (HOPz.out).mono ?_; rintro e z3 ⟨rfl, bo⟩)
  have HUz : Hid (Bel w3 ((z3.alloc (.cells #[.int .i64 0, .bool false, .bool false, .bool false, .bool false, .int .i64 0, .int .i64 0, .int .i64 0, .int .i64 0] 69)).alloc (.cells #[.int .i64 0, .slice none 0 0, .slice none 0 0] 25))) := Lib.hid (bthen HTz.out (bthen bo (((Bel.refl z3).alloc (Nat.le_refl _) _).alloc (by simp) _)))
  obtain ⟨z4, hW⟩ : ∃ Y, ((z3.alloc (.cells #[.int .i64 0, .bool false, .bool false, .bool false, .bool false, .int .i64 0, .int .i64 0, .int .i64 0, .int .i64 0] 69)).alloc (.cells #[.int .i64 0, .slice none 0 0, .slice none 0 0] 25)) = Y := ⟨_, rfl⟩
  rw [hW] at HUz ⊢
  clear hW bo HOPz
  have BF := Lib.hid (bthen B3.out HUz.out)
  obtain ⟨s0, s1, s2⟩ := Blk.cells3 (Blk.bel HS3.out HUz.out)
  have hzy : (ey == 0) = false := by simpa using HNEy.out
  have hzz : (ez == 0) = false := by simpa using HNEz.out
  go_wp2_with (first
    | (go_at_call 40; refine (HLV.out _ (bthen BF.out B15.out)).mono ?_; rintro e w14 ⟨rfl, b14⟩; have B14 := Lib.hid b14; clear b14)
    | (go_at_call 47; refine (HRF1.out _ BF.out).mono ?_; rintro e w15 ⟨rfl, b15⟩; have B15 := Lib.hid b15; clear b15))
  go_ret
  exact ⟨by first | rfl | simp [HNEy.out, HNEz.out], bthen (bthen BF.out B15.out) B14.out⟩
theorem lies_calls (D : Nat) (s : Sh) (c : Value × Value × Value) (srs : Int) (o bx : Bool) (n : Int) (w : World) (hn : 0 ≤ n ∧ n < 18446744073709551616) (hw2 : 2 ≤ w.heap.size) (hs : ShB w.heap.size w D c s) (hok : shOk s) (hF : FormsAt w) (hN : NowAt w) :
    Calls Tryd.prog 13 #[.agg #[c.1, c.2.1, c.2.2], .agg #[.int .i64 srs, .bool o, .bool bx], .int .u64 n] w fun e w' => e = .returned (.bool true) ∧ Bel w w' := by
  by_cases hT : (blobB o true srs s).length < 40
  · exact lies_short D s c srs o bx n w hn hw2 hs hok hF hN hT
  have hh : MShape.check s = 0 ∧ srsOk srs = true := by
    by_cases hh : MShape.check s = 0 ∧ srsOk srs = true
    · exact hh
    · unfold blobB at hT
      rw [if_neg hh] at hT
      exact absurd (by decide) hT
  cases hno : (boxOf s.flat).no with
  | false => exact lies_box D s c srs o bx n w hn hw2 hs hok hF hN hh.1 hh.2 hno (by omega)
  | true => exact lies_none D s c srs o bx n w hn hw2 hs hok hF hN hh.1 hh.2 hno (by omega)
theorem BlobLies_calls {w : World} (cs : Array Value) (s : Sh) (hK : KSh.K w s cs.toList) (hq : shOk s) (cs' : Array Value) (x : Int × Bool × Bool) (hK' : (Kd.pair (Kd.int .i64) (Kd.pair Kd.bool Kd.bool)).K w x cs'.toList) (n : Int) (hn : (Lit.int .u64 n).wf = true) (hw2 : 2 ≤ w.heap.size) (hF : FormsAt w) (hN : NowAt w) :
    Calls Tryd.prog 13 #[.agg cs, .agg cs', .int .u64 n] w fun e w' => e = .returned (.bool true) ∧ Below w.heap.size w w' := by
  obtain ⟨d, c, hc, hs⟩ := hK
  obtain ⟨c0, c1, e, h0, c2, c3, e2, h1, h2⟩ := hK'
  obtain rfl : c0 = [.int .i64 x.1] := h0
  obtain rfl : c2 = [.bool x.2.1] := h1
  obtain rfl : c3 = [.bool x.2.2] := h2
  subst e2
  obtain ⟨l⟩ := cs
  obtain ⟨l'⟩ := cs'
  simp at hc e
  subst hc e
  have hn2 : 0 ≤ n ∧ n < 18446744073709551616 := by
    simp only [Lit.wf, IntKind.min, IntKind.max, IntKind.signed, IntKind.bits, Bool.and_eq_true, decide_eq_true_eq, if_true] at hn
    simp at hn
    omega
  exact lies_calls d s c x.1 x.2.1 x.2.2 n w hn2 hw2 hs hq hF hN
end Go.Proofs.YtfknhpgelleenaaDoor.K
end
