/- What a claim leans on, part 23, cut by a program out of the texts WBlob3. -/
import Derived.Handy
import Derived.Lib.SlBytesConst
import Derived.ArgAppend
import Derived.Test.YtfknhpgelleenaaDoorZB4
import Derived.Test.YtfknhpgelleenaaDoorZB5
import Derived.Test.YtfknhpgelleenaaDoorZB7
import Derived.Test.YtfknhpgelleenaaDoorZB11
import Derived.Test.YtfknhpgelleenaaDoorZB12
import Derived.Test.YtfknhpgelleenaaDoorZB19
import Derived.Test.YtfknhpgelleenaaDoorZB21
import Derived.Test.YtfknhpgelleenaaDoorZB22
section
namespace Go.Proofs.YtfknhpgelleenaaDoor.K
open Go Go.RowKit Go.Proofs.YtfknhpgelleenaaDoorW.PrintWords Go.Proofs.YtfknhpgelleenaaDoorW.PrintLast Go.Proofs.YtfknhpgelleenaaDoorW.PrintMore
set_option linter.unusedVariables false
set_option linter.unusedSimpArgs false
open Go.Proofs.YtfknhpgelleenaaDoor.MShape (Sh flats)
open Go.Proofs.YtfknhpgelleenaaDoor.MBox (Bx)
section
variable {ops : Array Oper} {rest : List Oper} {oo : Oper} {a : Act} {Q : Exit → Act → World → Prop}
theorem appHead {W0 W : World} (s x : Operand) (hgd : oo.guard = none) (ho : oo.op = .call { callee := .builtin .append, args := #[s, x], argTypes := #[49, 49] })
    (g : Nat) (f : Int) (hs : a.eval s = .slice (some ⟨g, 0, none⟩) 3 3) (hx : a.eval x = .slice (some ⟨W.heap.size, 0, none⟩) 1 1) (hb : W0.heap.size ≤ W.heap.size)
    (h0 : W.cell? ⟨g, 0, none⟩ = some (.int .u8 71)) (h1 : W.cell? ⟨g, 1, none⟩ = some (.int .u8 80)) (h2 : W.cell? ⟨g, 2, none⟩ = some (.int .u8 0))
    (h : ∀ v1 w1, Hid (RB W0 w1 v1 [71, 80, 0, f]) → Hid (Bel W w1) → wpList Tryd.prog ops Q rest (a.put oo.dst v1) w1) :
    wpList Tryd.prog ops Q (oo :: rest) a (W.alloc (.cells #[.int .u8 f] 5)) := by
  obtain ⟨i0, hi, hzz⟩ := Option.map_eq_some_iff.1 infoB
  simp only [Prod.mk.injEq] at hzz
  obtain ⟨hz0, hz1, hz2⟩ := hzz
  have hal : Bel W (W.alloc (.cells #[.int .u8 f] 5)) := (Bel.refl W).alloc (Nat.le_refl _) _
  refine wpList_append_grows (W.alloc (.cells #[.int .u8 f] 5)) hgd s x 49 ho 5 i0 (.int .u8 0) 1 1 Tryd.underlying49 hi hz0 hz1 hz2 rfl (by decide) (some ⟨g, 0, none⟩) 3 3 [.int .u8 71, .int .u8 80, .int .u8 0] hs (fun e => by cases e) rfl (fun b hb' j u hj => ?_) ⟨W.heap.size, 0, none⟩ 1 1 [.int .u8 f] hx rfl
    (by simpa using World.news_of_block (cs := #[.int .u8 f]) (t := 5) (fr := (0, 0)) (heap_alloc_new W (.cells #[.int .u8 f] 5))) (by intro u hu; simp only [List.mem_cons, List.not_mem_nil, or_false] at hu; subst hu; rfl) (by decide) (by simp [maxLen]) (by omega) (fun v' w' hown hg => ?_)
  · cases hb'
    rw [add_mid]
    match j, hj with
    | 0, hj => cases hj; exact kc hal h0
    | 1, hj => cases hj; exact kc hal h1
    | 2, hj => cases hj; exact kc hal h2
  · refine h v' w' (Lib.hid ⟨fun _ _ => trivial, _, own_weaken hown (by simp; omega), rfl, fun j p hj => ?_⟩) (Lib.hid ⟨hg.os, hg.tape, hg.output, Nat.le_trans hal.size hg.size, fun k hk => (hg.block k (by simp; omega) (by simp)).trans (hal.block k hk)⟩)
    match j, hj with
    | 0, hj => cases hj; rfl
    | 1, hj => cases hj; rfl
    | 2, hj => cases hj; rfl
    | 3, hj => cases hj; rfl
end
/-- What Make puts. -/
def blobL (o bx : Bool) (srs : Int) (s : Sh) (b : Bx) : List Int := [71, 80, 0, flagsV o (bx && !b.no) b.no] ++ MWkb.nm srs 4 o ++ (if (bx && !b.no) = true then corn o b else []) ++ MWkb.enc o s
def blobB (o bx : Bool) (srs : Int) (s : Sh) : List Int := if MShape.check s = 0 ∧ srsOk srs = true then blobL o bx srs s (boxOf s.flat) else []
set_option maxHeartbeats 4000000 in
set_option maxRecDepth 100000 in
theorem make_calls (D : Nat) (s : Sh) (c : Value × Value × Value) (srs : Int) (o bx : Bool) (w : World) (B : Nat) (hB : B ≤ w.heap.size) (hw2 : 2 ≤ w.heap.size) (hs : ShB B w D c s) (hF : FormsAt w) (hN : NowAt w) :
    Calls Tryd.prog 39 #[.agg #[c.1, c.2.1, c.2.2], .int .i64 srs, .bool o, .bool bx] w fun e w' => ∃ v, e = .returned v ∧ Hid (RB w w' v (blobB o bx srs s)) ∧ Hid (Bel w w') := by
  have HCK := Lib.hid (fun W h1 h2 h3 h4 => check_calls D s c W B h1 h2 h3 h4)
  have HE := Lib.hid (fun W h1 h2 h3 h4 h5 => encode_calls D s c o W B h1 h2 h3 h4 h5)
  have HBO := Lib.hid (fun W h => boxOf_calls W c D s.flat h)
  have HS := Lib.hid hs
  obtain ⟨kd, u1, u2, u3, u4, u5, u6, rfl⟩ := hs.forms
  dsimp only at HCK HE HBO HS ⊢
  have HF := Lib.hid hF
  have HN := Lib.hid hN
  have HW2 := Lib.hid hw2
  have HBB := Lib.hid hB
  clear hs hF hN hw2 hB
  have S := Blk.new w #[.int .i64 kd, .slice u1 u2 u3, .slice u4 u5 u6] 25
  have HB : Hid (Bel w (w.alloc (.cells #[.int .i64 kd, .slice u1 u2 u3, .slice u4 u5 u6] 25))) := Lib.hid ((Bel.refl w).alloc (Nat.le_refl _) _)
  go_enter Tryd.func39, Tryd.ntmps39
  go_upto_region 1 with (fail)
  obtain ⟨W1, hW⟩ : ∃ X, w.alloc (.cells #[.int .i64 kd, .slice u1 u2 u3, .slice u4 u5 u6] 25) = X := ⟨_, rfl⟩
  rw [hW] at S HB ⊢
  obtain ⟨gs, hg⟩ : ∃ X, w.heap.size = X := ⟨_, rfl⟩
  have HGS := Lib.hid hg
  rw [hg] at S ⊢
  clear hW hg
  obtain ⟨s0, s1, s2⟩ := Blk.cells3 S
  have HSB := Lib.hid S
  clear S
  have HC1 := Lib.hid (HCK.out W1 (by have := HB.out.size; have := HBB.out; omega) (by have := HB.out.size; have := HW2.out; omega) (HS.out.keep (KeepB.bel HB.out)) (HF.out.bel HB.out))
  obtain ⟨ck, hck⟩ : ∃ k, MShape.check s = k := ⟨_, rfl⟩
  have HCE := Lib.hid hck
  rw [hck] at HC1
  clear hck HCK
  have HIS : Hid (∀ W', Calls Tryd.prog 63 #[.int .i64 srs] W' fun e w' => e = .returned (.bool (srsOk srs)) ∧ W' = w') := Lib.hid (fun W' => (isSrs_calls srs W').mono fun e w' h => ⟨h.1, h.2.symm⟩)
  obtain ⟨so, hso⟩ : ∃ b, srsOk srs = b := ⟨_, rfl⟩
  have HSO := Lib.hid hso
  rw [hso] at HIS
  clear hso
  by_cases hz : ck = 0
  case neg =>
    have hz1 : (ck == 0) = false := by simpa using hz
    have hz2 : (ck != 0) = true := by simpa using hz
    go_wp2_with (go_at_call 21; refine (HC1.out).mono ?_; rintro e W2 ⟨rfl, hb2⟩)
    go_ret
    exact ⟨_, rfl, by unfold blobB; rw [if_neg (by rw [HCE.out]; exact fun h => hz h.1)]; exact RB.nil _ _, bthen HB.out hb2⟩
  subst hz
  cases so
  · go_wp2_with (first
      | (go_at_call 63; refine (HIS.out _).mono ?_; rintro e w' ⟨rfl, rfl⟩)
      | (go_at_call 21; refine (HC1.out).mono ?_; rintro e W2 ⟨rfl, hb2⟩))
    go_ret
    exact ⟨_, rfl, by unfold blobB; rw [if_neg (by rw [HSO.out]; exact fun h => by cases h.2)]; exact RB.nil _ _, bthen HB.out hb2⟩
  go_upto_region 3 with (first
      | (go_at_call 63; refine (HIS.out _).mono ?_; rintro e w' ⟨rfl, rfl⟩)
      | (go_at_call 21; refine (HC1.out).mono ?_; rintro e W2 ⟨rfl, hb2⟩))
  have HB2 := Lib.hid (bthen HB.out hb2)
  have HSB2 := Lib.hid (Blk.bel HSB.out hb2)
  clear s0 s1 s2 hb2 HC1 HSB
  obtain ⟨s0, s1, s2⟩ := Blk.cells3 HSB2.out
  have HC3 := Lib.hid (HBO.out W2 (fun k hk => ShB.isSh (by have := HB2.out.size; have := HBB.out; omega) D (HS.out.keep (KeepB.bel HB2.out))))
  obtain ⟨b, hb⟩ : ∃ b, boxOf s.flat = b := ⟨_, rfl⟩
  have HBX := Lib.hid hb
  rw [hb] at HC3
  have HLI := Lib.hid (MShape.light_is (check_light HCE.out))
  have HEL := Lib.hid (MWkb.enc_len o s)
  have hbl : blobB o bx srs s = blobL o bx srs s b := by unfold blobB; rw [if_pos ⟨HCE.out, HSO.out⟩, hb]
  have HBL := Lib.hid hbl
  clear hb hbl
  go_upto_region 4 with (go_at_call 64; refine (HC3.out).mono ?_; rintro e W3 ⟨rfl, hb3⟩)
  have HB3 := Lib.hid (bthen HB2.out hb3)
  have S3 := (Blk.bel HSB2.out hb3).alloc (.cells #[.bool b.no, .int .i64 b.lx, .int .i64 b.ly, .int .i64 b.hx, .int .i64 b.hy] 67)
  have X3 := Blk.new W3 #[.bool b.no, .int .i64 b.lx, .int .i64 b.ly, .int .i64 b.hx, .int .i64 b.hy] 67
  have HB4 := Lib.hid (HB3.out.alloc HB3.out.size (.cells #[.bool b.no, .int .i64 b.lx, .int .i64 b.ly, .int .i64 b.hx, .int .i64 b.hy] 67))
  obtain ⟨W4, hW⟩ : ∃ X, W3.alloc (.cells #[.bool b.no, .int .i64 b.lx, .int .i64 b.ly, .int .i64 b.hx, .int .i64 b.hy] 67) = X := ⟨_, rfl⟩
  rw [hW] at S3 X3 HB4 ⊢
  obtain ⟨gx, hg⟩ : ∃ X, W3.heap.size = X := ⟨_, rfl⟩
  rw [hg] at X3 ⊢
  clear hW hg s0 s1 s2 hb3 HC3
  have HS4 := Lib.hid S3
  have HX4 := Lib.hid X3
  obtain ⟨x0, x1, x2, x3, x4⟩ := Blk.cells5 X3
  clear S3 X3
  have HCR := Lib.hid (fun W' => corners_calls b o W')
  obtain ⟨bn, hbn⟩ : ∃ t, b.no = t := ⟨_, rfl⟩
  have HBN := Lib.hid hbn
  rw [hbn] at x0 HX4 HCR
  clear hbn
  cases bx <;> cases bn
  · have hcv := Lib.run_convert_bytes_const (P := Tryd.prog) W4 49 5 #[.int .u8 71, .int .u8 80, .int .u8 0] 3 3 Tryd.underlying49 Tryd.underlying5
    have HBa : Hid (Bel W4 (W4.alloc (.cells #[.int .u8 71, .int .u8 80, .int .u8 0] 5 (3, 4)))) := Lib.hid ((Bel.refl W4).alloc (Nat.le_refl _) _)
    have HBb : Hid (Bel W4 ((W4.alloc (.cells #[.int .u8 71, .int .u8 80, .int .u8 0] 5 (3, 4))).alloc (.cells #[.bool o, .bool false, .bool false] 4))) := Lib.hid (HBa.out.alloc HBa.out.size _)
    have HFL := Lib.hid (flags_calls o false false (W4.heap.size + 1) _ (Blk.new_at (W := W4.alloc (.cells #[.int .u8 71, .int .u8 80, .int .u8 0] 5 (3, 4))) (g := W4.heap.size + 1) (by simp) #[.bool o, .bool false, .bool false] 4))
    have HC0 := Lib.hid (fun j => World.cell?_alloc_mark W4 #[.int .u8 71, .int .u8 80, .int .u8 0] 5 (3, 4) j)
    have hgx := Blk.lt HX4.out
    go_upto_region 6 with (first
      | (at_builtin; refine appHead (W0 := w) (.tmp 29) (.tmp 36) rfl rfl W4.heap.size _ rfl rfl HBL5.out.size (H50.out 0 _ rfl) (H50.out 1 _ rfl) (H50.out 2 _ rfl) ?_; intro v6 w5 HR6 HB6)
      | (go_at_call 65; refine (HFL.out).mono ?_; rintro e wf ⟨rfl, hb5⟩; have H50 : Hid (∀ (j : Nat) (u : Value), (#[(.int .u8 71 : Value), .int .u8 80, .int .u8 0])[j]? = some u → wf.cell? ⟨W4.heap.size, j, none⟩ = some u) := Lib.hid (fun j u hj => kc (bthen ((Bel.refl _).alloc (Nat.le_refl _) _) hb5) ((HC0.out j).trans hj)); have HBL5 := Lib.hid (bthen HB4.out (bthen HBb.out hb5))))
    obtain ⟨A10, n10, c10, hv6⟩ := RB.sl HR6.out
    subst hv6
    have HBw5 := Lib.hid (bthen HBL5.out HB6.out)
    have HS6 := Lib.hid (Blk.bel HS4.out (bthen (bthen HBb.out hb5) HB6.out))
    have HX6 := Lib.hid (Blk.bel HX4.out (bthen (bthen HBb.out hb5) HB6.out))
    clear hcv HFL HC0 hgx H50 hb5 x0 x1 x2 x3 x4
    obtain ⟨x0, x1, x2, x3, x4⟩ := Blk.cells5 HX6.out
    obtain ⟨s0, s1, s2⟩ := Blk.cells3 HS6.out
    obtain ⟨L1, hL1⟩ : ∃ l : List Int, [] = l := ⟨_, rfl⟩
    have HL1 : Hid (L1.length ≤ 32) := Lib.hid (by rw [← hL1]; simp)
    have HL1E := Lib.hid hL1
    have HN11 : Hid (L1.length = 0) := Lib.hid (by rw [← hL1]; rfl)
    have HC11 : Hid (CB w5 none L1) := Lib.hid (by rw [← hL1]; exact CB.nil _)
    have HS5 := HS6
    have HR5 := HR6
    go_upto_region 9 with (fail)
    clear hL1 x0 x1 x2 x3 x4 s0 s1 s2
    have HU := Lib.hid (u64w srs)
    obtain ⟨hd, hhd⟩ : ∃ l, [71, 80, 0, flagsV o false false] = l := ⟨_, rfl⟩
    have HHD := Lib.hid hhd
    have HHL : Hid (hd.length = 4) := Lib.hid (by rw [← hhd]; rfl)
    rw [hhd] at HR5
    clear hhd
    obtain ⟨L0, hL0⟩ : ∃ l, hd ++ MWkb.nm srs 4 o = l := ⟨_, rfl⟩
    have HL0 : Hid (L0.length = 8) := Lib.hid (by rw [← hL0, List.length_append, MWkb.nm4, HHL.out])
    have HPU : Hid (∀ W, Below w5.heap.size w5 W → Calls Tryd.prog 68 #[.slice A10 n10 c10, .int .u64 (MWkb.u64 srs), .int .i64 4, .bool o] W fun e w' => ∃ v, e = .returned v ∧ RB W w' v L0 ∧ Below W.heap.size W w') := Lib.hid (fun W h => by
      obtain ⟨A, c, e, hc, hC⟩ := HR5.out.reads
      injection e with e1 e2 e3
      subst e1 e3
      have h9 := octet_Put_calls A10 c10 hd (MWkb.u64 srs) 4 o W (hC.below h) hc (by have := HHL.out; omega) (MWkb.u64_in _).1 (MWkb.u64_in _).2
      rw [← e2] at h9
      have h10 : hd ++ MOct.putL (MWkb.u64 srs) 4 o = L0 := hL0
      rw [h10] at h9
      exact h9)
    have HL0E := Lib.hid hL0
    clear hL0
    obtain ⟨L2, hL2⟩ : ∃ l, MWkb.enc o s = l := ⟨_, rfl⟩
    have HL2 := Lib.hid hL2
    have HEN : Hid (∀ W, Bel w5 W → Calls Tryd.prog 35 #[.agg #[.int .i64 kd, .slice u1 u2 u3, .slice u4 u5 u6], .bool o] W fun e w' => ∃ v, e = .returned v ∧ Hid (RB W w' v L2) ∧ Hid (Bel W w')) := Lib.hid (fun W h => by
      have h1 := bthen HBw5.out h
      have h9 := HE.out W (by have := h1.size; have := HBB.out; omega) (by have := h1.size; have := HW2.out; omega) (HS.out.keep (KeepB.bel h1)) (HF.out.bel h1) (HN.out.below HW2.out h1)
      have h10 : encB o s = L2 := by unfold encB; rw [if_pos HCE.out, hL2]
      rw [h10] at h9
      exact h9)
    have HLL : Hid (L0.length + L1.length + L2.length < 100000000) := Lib.hid (by have := HL0.out; have := HL1.out; have := HEL.out; have := HLI.out; rw [hL2] at *; omega)
    clear hL2
    refine Reg.region_mono (P := Tryd.prog) (Ext := Bel) (R := fun i v W => match i with
        | 0 => v = .slice A10 n10 c10
        | 1 => v = .int .i64 srs
        | 2 => v = .int .u64 (MWkb.u64 srs)
        | 3 => v = .bool o
        | 4 => RB w5 W v L0
        | 5 => v = .slice none 0 0
        | 6 => v = .agg #[.int .i64 kd, .slice u1 u2 u3, .slice u4 u5 u6]
        | 7 => v = .bool o
        | 8 => RB w5 W v L2
        | 9 => ∃ (g : Nat) (A1 A2 : Option Addr) (k1 k2 : Nat), v = .slice (some ⟨g, 0, none⟩) 3 3 ∧ Blk W g #[.slice A1 L0.length k1, .slice none 0 0, .slice A2 L2.length k2] 49 ∧ CB W A1 L0 ∧ CB W A2 L2
        | 10 => RB w5 W v (L0 ++ L1 ++ L2)
        | 11 => RB w5 W v (L0 ++ L1 ++ L2)
        | _ => True) (fun W => Below w5.heap.size w5 W) rfl (by kernel_rfl) (by kernel_rfl) (Bel.drew w5) (fun W W' h h' => bthen h h') Bel.refl (by intro j v W W' hx h; split at h <;> first | exact h | exact RB.below h hx | (obtain ⟨g, A1, A2, k1, k2, h1, h2, h3, h4⟩ := h; exact ⟨g, A1, A2, k1, k2, h1, h2.bel hx, h3.below hx, h4.below hx⟩)) ?_ ?_
    · intro i oi hoi a W hW need old
      match i, hoi with
      | 0, hoi =>
        simp only [List.getElem?_toArray, List.getElem?_cons_succ, List.getElem?_cons_zero, Option.some.injEq] at hoi
        subst hoi
        refine Reg.ob_plain rfl ?_
        have e10 : a.eval (.tmp 10) = .slice A10 n10 c10 := old 10 (by kernel_rfl)
        refine Reg.wp_val (W' := W) (v := _) (by simp only [execOp, e10, Reg.eval_const]; rfl) ⟨_, rfl, Bel.refl W, rfl⟩
      | 1, hoi =>
        simp only [List.getElem?_toArray, List.getElem?_cons_succ, List.getElem?_cons_zero, Option.some.injEq] at hoi
        subst hoi
        refine Reg.ob_plain rfl ?_
        have e1 : a.eval (.tmp 1) = .int .i64 srs := old 1 (by kernel_rfl)
        refine Reg.wp_val (W' := W) (v := _) (by simp only [execOp, e1, Reg.eval_const]; rfl) ⟨_, rfl, Bel.refl W, rfl⟩
      | 2, hoi =>
        simp only [List.getElem?_toArray, List.getElem?_cons_succ, List.getElem?_cons_zero, Option.some.injEq] at hoi
        subst hoi
        refine Reg.ob_plain rfl ?_
        have e43 : a.eval (.tmp 43) = .int .i64 srs := need 1 _ 43 rfl rfl (by kernel_rfl)
        have hx := HU.out
        refine Reg.wp_val (W' := W) (v := .int .u64 (MWkb.u64 srs)) (by simp only [execOp, e43, Reg.eval_const, resolve, invoke, builtin, List.map_toArray, List.map_cons, List.map_nil, Option.map_some, Option.map_none]; (first | rfl | go_simp | (go_simp; rfl))) ⟨_, rfl, Bel.refl W, rfl⟩
      | 3, hoi =>
        simp only [List.getElem?_toArray, List.getElem?_cons_succ, List.getElem?_cons_zero, Option.some.injEq] at hoi
        subst hoi
        refine Reg.ob_plain rfl ?_
        have e2 : a.eval (.tmp 2) = .bool o := old 2 (by kernel_rfl)
        refine Reg.wp_val (W' := W) (v := _) (by simp only [execOp, e2, Reg.eval_const]; rfl) ⟨_, rfl, Bel.refl W, rfl⟩
      | 4, hoi =>
        simp only [List.getElem?_toArray, List.getElem?_cons_succ, List.getElem?_cons_zero, Option.some.injEq] at hoi
        subst hoi
        refine Reg.ob_plain rfl ?_
        have e42 : a.eval (.tmp 42) = .slice A10 n10 c10 := need 0 _ 42 rfl rfl (by kernel_rfl)
        have e44 : a.eval (.tmp 44) = .int .u64 (MWkb.u64 srs) := need 2 _ 44 rfl rfl (by kernel_rfl)
        have e45 : a.eval (.tmp 45) = .bool o := need 3 _ 45 rfl rfl (by kernel_rfl)
        refine Reg.wp_call (f := 68) (args := #[.slice A10 n10 c10, .int .u64 (MWkb.u64 srs), .int .i64 4, .bool o]) (by simp only [execOp, e42, e44, e45, Reg.eval_const, resolve, invoke, List.map_toArray, List.map_cons, List.map_nil]; go_simp) ?_
        refine (HPU.out W hW).mono ?_
        rintro e W' ⟨v, rfl, hr, hb⟩; exact ⟨v, rfl, v, rfl, hb, hr.lower hW.size⟩
      | 5, hoi =>
        simp only [List.getElem?_toArray, List.getElem?_cons_succ, List.getElem?_cons_zero, Option.some.injEq] at hoi
        subst hoi
        refine Reg.ob_plain rfl ?_
        have e11 : a.eval (.tmp 11) = .slice none 0 0 := old 11 (by kernel_rfl)
        refine Reg.wp_val (W' := W) (v := _) (by simp only [execOp, e11, Reg.eval_const]; rfl) ⟨_, rfl, Bel.refl W, rfl⟩
      | 6, hoi =>
        simp only [List.getElem?_toArray, List.getElem?_cons_succ, List.getElem?_cons_zero, Option.some.injEq] at hoi
        subst hoi
        refine Reg.ob_plain rfl ?_
        have e4 : a.eval (.tmp 4) = .pointer (some ⟨gs, 0, none⟩) := old 4 (by kernel_rfl)
        obtain ⟨c0, c1, c2⟩ := Blk.cells3 (Blk.bel HS5.out hW)
        refine Reg.wp_val (W' := W) (v := .agg #[.int .i64 kd, .slice u1 u2 u3, .slice u4 u5 u6]) (by simp only [execOp, e4, Reg.eval_const, resolve, invoke, builtin, List.map_toArray, List.map_cons, List.map_nil, Option.map_some, Option.map_none]; (first | rfl | go_simp | (go_simp; rfl))) ⟨_, rfl, Bel.refl W, rfl⟩
      | 7, hoi =>
        simp only [List.getElem?_toArray, List.getElem?_cons_succ, List.getElem?_cons_zero, Option.some.injEq] at hoi
        subst hoi
        refine Reg.ob_plain rfl ?_
        have e2 : a.eval (.tmp 2) = .bool o := old 2 (by kernel_rfl)
        refine Reg.wp_val (W' := W) (v := _) (by simp only [execOp, e2, Reg.eval_const]; rfl) ⟨_, rfl, Bel.refl W, rfl⟩
      | 8, hoi =>
        simp only [List.getElem?_toArray, List.getElem?_cons_succ, List.getElem?_cons_zero, Option.some.injEq] at hoi
        subst hoi
        refine Reg.ob_plain rfl ?_
        have e48 : a.eval (.tmp 48) = .agg #[.int .i64 kd, .slice u1 u2 u3, .slice u4 u5 u6] := need 6 _ 48 rfl rfl (by kernel_rfl)
        have e49 : a.eval (.tmp 49) = .bool o := need 7 _ 49 rfl rfl (by kernel_rfl)
        refine Reg.wp_call (f := 35) (args := #[.agg #[.int .i64 kd, .slice u1 u2 u3, .slice u4 u5 u6], .bool o]) (by simp only [execOp, e48, e49, Reg.eval_const, resolve, invoke, List.map_toArray, List.map_cons, List.map_nil]; go_simp) ?_
        refine (HEN.out W hW).mono ?_
        rintro e W' ⟨v, rfl, hr, hb⟩; exact ⟨v, rfl, v, rfl, hb.out, hr.out.lower hW.size⟩
      | 9, hoi =>
        simp only [List.getElem?_toArray, List.getElem?_cons_succ, List.getElem?_cons_zero, Option.some.injEq] at hoi
        subst hoi
        refine Reg.ob_plain rfl ?_
        have r46 := need 4 _ 46 rfl rfl (by kernel_rfl)
        simp only at r46
        obtain ⟨x46, e46⟩ : ∃ x, a.eval (.tmp 46) = x := ⟨_, rfl⟩
        rw [← Reg.eval_tmp, e46] at r46
        have e47 : a.eval (.tmp 47) = .slice none 0 0 := need 5 _ 47 rfl rfl (by kernel_rfl)
        have r50 := need 8 _ 50 rfl rfl (by kernel_rfl)
        simp only at r50
        obtain ⟨x50, e50⟩ : ∃ x, a.eval (.tmp 50) = x := ⟨_, rfl⟩
        rw [← Reg.eval_tmp, e50] at r50
        obtain ⟨A1, k1, hx46, _, hC1⟩ := r46.reads
        obtain ⟨A2, k2, hx50, _, hC2⟩ := r50.reads
        subst hx46
        subst hx50
        have hal : Bel W (W.alloc (.cells #[.slice A1 L0.length k1, .slice none 0 0, .slice A2 L2.length k2] 49)) := (Bel.refl W).alloc (Nat.le_refl _) _
        refine Reg.wp_val (W' := W.alloc (.cells #[.slice A1 L0.length k1, .slice none 0 0, .slice A2 L2.length k2] 49)) (v := .slice (some ⟨W.heap.size, 0, none⟩) 3 3) (by simp only [execOp, e46, e47, e50, Reg.eval_const, resolve, invoke, List.map_toArray, List.map_cons, List.map_nil]; go_simp) ⟨_, rfl, hal, W.heap.size, A1, A2, k1, k2, rfl, Blk.new W _ _, hC1.below hal, hC2.below hal⟩
      | 10, hoi =>
        simp only [List.getElem?_toArray, List.getElem?_cons_succ, List.getElem?_cons_zero, Option.some.injEq] at hoi
        subst hoi
        refine Reg.ob_plain rfl ?_
        have r51 := need 9 _ 51 rfl rfl (by kernel_rfl)
        simp only at r51
        obtain ⟨x51, e51⟩ : ∃ x, a.eval (.tmp 51) = x := ⟨_, rfl⟩
        rw [← Reg.eval_tmp, e51] at r51
        obtain ⟨gq, A1, A2, k1, k2, hx51, hb51, hC1, hC2⟩ := r51
        subst hx51
        refine Reg.wp_call (f := 67) (args := #[.slice (some ⟨gq, 0, none⟩) 3 3]) (by simp only [execOp, e51, Reg.eval_const, resolve, invoke, List.map_toArray, List.map_cons, List.map_nil]; go_simp) ?_
        refine (concat_calls gq A1 none A2 k1 0 k2 L0 L1 L2 W (by rw [HN11.out]; exact hb51) hC1 (HC11.out.below hW) hC2 HLL.out).mono ?_
        rintro e W' ⟨v, rfl, hr, hb⟩; exact ⟨v, rfl, v, rfl, hb.out, hr.out.lower hW.size⟩
      | 11, hoi =>
        simp only [List.getElem?_toArray, List.getElem?_cons_succ, List.getElem?_cons_zero, Option.some.injEq] at hoi
        subst hoi
        refine Reg.ob_plain rfl ?_
        have r52 := need 10 _ 52 rfl rfl (by kernel_rfl)
        simp only at r52
        obtain ⟨x52, e52⟩ : ∃ x, a.eval (.tmp 52) = x := ⟨_, rfl⟩
        rw [← Reg.eval_tmp, e52] at r52
        refine Reg.wp_val (W' := W) (v := _) (by simp only [execOp, e52, Reg.eval_const]; rfl) ⟨_, rfl, Bel.refl W, r52⟩
      | n + 12, hoi => simp at hoi
    · intro a w9 hW hsize hdef got same did
      have ha := Reg.act_of [42, 43, 44, 45, 46, 47, 48, 49, 50, 51, 52, 8] hsize hdef same (by kernel_rfl)
      simp only [List.foldl_cons, List.foldl_nil] at ha
      generalize a.tmps.getD 42 undef = y42 at ha
      generalize a.tmps.getD 43 undef = y43 at ha
      generalize a.tmps.getD 44 undef = y44 at ha
      generalize a.tmps.getD 45 undef = y45 at ha
      generalize a.tmps.getD 46 undef = y46 at ha
      generalize a.tmps.getD 47 undef = y47 at ha
      generalize a.tmps.getD 48 undef = y48 at ha
      generalize a.tmps.getD 49 undef = y49 at ha
      generalize a.tmps.getD 50 undef = y50 at ha
      generalize a.tmps.getD 51 undef = y51 at ha
      generalize a.tmps.getD 52 undef = y52 at ha
      have k8 := got 11 _ 8 rfl rfl
      simp only at k8
      generalize a.tmps.getD 8 undef = y8 at ha k8
      clear got same hsize hdef did
      subst ha
      simp only [List.setIfInBounds_toArray, List.set_cons_zero, List.set_cons_succ]
      go_wp2
      go_ret
      exact ⟨_, rfl, by
        have h10 : blobL o false srs s b = L0 ++ L1 ++ L2 := by rw [← HL0E.out, ← HL2.out, ← HHD.out, ← HL1E.out]; unfold blobL; rw [HBN.out]; rfl
        rw [HBL.out, h10]
        exact RB.lower k8 HBw5.out.size, bthen HBw5.out hW⟩
  · have hcv := Lib.run_convert_bytes_const (P := Tryd.prog) W4 49 5 #[.int .u8 71, .int .u8 80, .int .u8 0] 3 3 Tryd.underlying49 Tryd.underlying5
    have HBa : Hid (Bel W4 (W4.alloc (.cells #[.int .u8 71, .int .u8 80, .int .u8 0] 5 (3, 4)))) := Lib.hid ((Bel.refl W4).alloc (Nat.le_refl _) _)
    have HBb : Hid (Bel W4 ((W4.alloc (.cells #[.int .u8 71, .int .u8 80, .int .u8 0] 5 (3, 4))).alloc (.cells #[.bool o, .bool false, .bool true] 4))) := Lib.hid (HBa.out.alloc HBa.out.size _)
    have HFL := Lib.hid (flags_calls o false true (W4.heap.size + 1) _ (Blk.new_at (W := W4.alloc (.cells #[.int .u8 71, .int .u8 80, .int .u8 0] 5 (3, 4))) (g := W4.heap.size + 1) (by simp) #[.bool o, .bool false, .bool true] 4))
    have HC0 := Lib.hid (fun j => World.cell?_alloc_mark W4 #[.int .u8 71, .int .u8 80, .int .u8 0] 5 (3, 4) j)
    have hgx := Blk.lt HX4.out
    go_upto_region 6 with (first
      | (at_builtin; refine appHead (W0 := w) (.tmp 29) (.tmp 36) rfl rfl W4.heap.size _ rfl rfl HBL5.out.size (H50.out 0 _ rfl) (H50.out 1 _ rfl) (H50.out 2 _ rfl) ?_; intro v6 w5 HR6 HB6)
      | (go_at_call 65; refine (HFL.out).mono ?_; rintro e wf ⟨rfl, hb5⟩; have H50 : Hid (∀ (j : Nat) (u : Value), (#[(.int .u8 71 : Value), .int .u8 80, .int .u8 0])[j]? = some u → wf.cell? ⟨W4.heap.size, j, none⟩ = some u) := Lib.hid (fun j u hj => kc (bthen ((Bel.refl _).alloc (Nat.le_refl _) _) hb5) ((HC0.out j).trans hj)); have HBL5 := Lib.hid (bthen HB4.out (bthen HBb.out hb5))))
    obtain ⟨A10, n10, c10, hv6⟩ := RB.sl HR6.out
    subst hv6
    have HBw5 := Lib.hid (bthen HBL5.out HB6.out)
    have HS6 := Lib.hid (Blk.bel HS4.out (bthen (bthen HBb.out hb5) HB6.out))
    have HX6 := Lib.hid (Blk.bel HX4.out (bthen (bthen HBb.out hb5) HB6.out))
    clear hcv HFL HC0 hgx H50 hb5 x0 x1 x2 x3 x4
    obtain ⟨x0, x1, x2, x3, x4⟩ := Blk.cells5 HX6.out
    obtain ⟨s0, s1, s2⟩ := Blk.cells3 HS6.out
    obtain ⟨L1, hL1⟩ : ∃ l : List Int, [] = l := ⟨_, rfl⟩
    have HL1 : Hid (L1.length ≤ 32) := Lib.hid (by rw [← hL1]; simp)
    have HL1E := Lib.hid hL1
    have HN11 : Hid (L1.length = 0) := Lib.hid (by rw [← hL1]; rfl)
    have HC11 : Hid (CB w5 none L1) := Lib.hid (by rw [← hL1]; exact CB.nil _)
    have HS5 := HS6
    have HR5 := HR6
    go_upto_region 9 with (fail)
    clear hL1 x0 x1 x2 x3 x4 s0 s1 s2
    have HU := Lib.hid (u64w srs)
    obtain ⟨hd, hhd⟩ : ∃ l, [71, 80, 0, flagsV o false true] = l := ⟨_, rfl⟩
    have HHD := Lib.hid hhd
    have HHL : Hid (hd.length = 4) := Lib.hid (by rw [← hhd]; rfl)
    rw [hhd] at HR5
    clear hhd
    obtain ⟨L0, hL0⟩ : ∃ l, hd ++ MWkb.nm srs 4 o = l := ⟨_, rfl⟩
    have HL0 : Hid (L0.length = 8) := Lib.hid (by rw [← hL0, List.length_append, MWkb.nm4, HHL.out])
    have HPU : Hid (∀ W, Below w5.heap.size w5 W → Calls Tryd.prog 68 #[.slice A10 n10 c10, .int .u64 (MWkb.u64 srs), .int .i64 4, .bool o] W fun e w' => ∃ v, e = .returned v ∧ RB W w' v L0 ∧ Below W.heap.size W w') := Lib.hid (fun W h => by
      obtain ⟨A, c, e, hc, hC⟩ := HR5.out.reads
      injection e with e1 e2 e3
      subst e1 e3
      have h9 := octet_Put_calls A10 c10 hd (MWkb.u64 srs) 4 o W (hC.below h) hc (by have := HHL.out; omega) (MWkb.u64_in _).1 (MWkb.u64_in _).2
      rw [← e2] at h9
      have h10 : hd ++ MOct.putL (MWkb.u64 srs) 4 o = L0 := hL0
      rw [h10] at h9
      exact h9)
    have HL0E := Lib.hid hL0
    clear hL0
    obtain ⟨L2, hL2⟩ : ∃ l, MWkb.enc o s = l := ⟨_, rfl⟩
    have HL2 := Lib.hid hL2
    have HEN : Hid (∀ W, Bel w5 W → Calls Tryd.prog 35 #[.agg #[.int .i64 kd, .slice u1 u2 u3, .slice u4 u5 u6], .bool o] W fun e w' => ∃ v, e = .returned v ∧ Hid (RB W w' v L2) ∧ Hid (Bel W w')) := Lib.hid (fun W h => by
      have h1 := bthen HBw5.out h
      have h9 := HE.out W (by have := h1.size; have := HBB.out; omega) (by have := h1.size; have := HW2.out; omega) (HS.out.keep (KeepB.bel h1)) (HF.out.bel h1) (HN.out.below HW2.out h1)
      have h10 : encB o s = L2 := by unfold encB; rw [if_pos HCE.out, hL2]
      rw [h10] at h9
      exact h9)
    have HLL : Hid (L0.length + L1.length + L2.length < 100000000) := Lib.hid (by have := HL0.out; have := HL1.out; have := HEL.out; have := HLI.out; rw [hL2] at *; omega)
    clear hL2
    refine Reg.region_mono (P := Tryd.prog) (Ext := Bel) (R := fun i v W => match i with
        | 0 => v = .slice A10 n10 c10
        | 1 => v = .int .i64 srs
        | 2 => v = .int .u64 (MWkb.u64 srs)
        | 3 => v = .bool o
        | 4 => RB w5 W v L0
        | 5 => v = .slice none 0 0
        | 6 => v = .agg #[.int .i64 kd, .slice u1 u2 u3, .slice u4 u5 u6]
        | 7 => v = .bool o
        | 8 => RB w5 W v L2
        | 9 => ∃ (g : Nat) (A1 A2 : Option Addr) (k1 k2 : Nat), v = .slice (some ⟨g, 0, none⟩) 3 3 ∧ Blk W g #[.slice A1 L0.length k1, .slice none 0 0, .slice A2 L2.length k2] 49 ∧ CB W A1 L0 ∧ CB W A2 L2
        | 10 => RB w5 W v (L0 ++ L1 ++ L2)
        | 11 => RB w5 W v (L0 ++ L1 ++ L2)
        | _ => True) (fun W => Below w5.heap.size w5 W) rfl (by kernel_rfl) (by kernel_rfl) (Bel.drew w5) (fun W W' h h' => bthen h h') Bel.refl (by intro j v W W' hx h; split at h <;> first | exact h | exact RB.below h hx | (obtain ⟨g, A1, A2, k1, k2, h1, h2, h3, h4⟩ := h; exact ⟨g, A1, A2, k1, k2, h1, h2.bel hx, h3.below hx, h4.below hx⟩)) ?_ ?_
    · intro i oi hoi a W hW need old
      match i, hoi with
      | 0, hoi =>
        simp only [List.getElem?_toArray, List.getElem?_cons_succ, List.getElem?_cons_zero, Option.some.injEq] at hoi
        subst hoi
        refine Reg.ob_plain rfl ?_
        have e10 : a.eval (.tmp 10) = .slice A10 n10 c10 := old 10 (by kernel_rfl)
        refine Reg.wp_val (W' := W) (v := _) (by simp only [execOp, e10, Reg.eval_const]; rfl) ⟨_, rfl, Bel.refl W, rfl⟩
      | 1, hoi =>
        simp only [List.getElem?_toArray, List.getElem?_cons_succ, List.getElem?_cons_zero, Option.some.injEq] at hoi
        subst hoi
        refine Reg.ob_plain rfl ?_
        have e1 : a.eval (.tmp 1) = .int .i64 srs := old 1 (by kernel_rfl)
        refine Reg.wp_val (W' := W) (v := _) (by simp only [execOp, e1, Reg.eval_const]; rfl) ⟨_, rfl, Bel.refl W, rfl⟩
      | 2, hoi =>
        simp only [List.getElem?_toArray, List.getElem?_cons_succ, List.getElem?_cons_zero, Option.some.injEq] at hoi
        subst hoi
        refine Reg.ob_plain rfl ?_
        have e43 : a.eval (.tmp 43) = .int .i64 srs := need 1 _ 43 rfl rfl (by kernel_rfl)
        have hx := HU.out
        refine Reg.wp_val (W' := W) (v := .int .u64 (MWkb.u64 srs)) (by simp only [execOp, e43, Reg.eval_const, resolve, invoke, builtin, List.map_toArray, List.map_cons, List.map_nil, Option.map_some, Option.map_none]; (first | rfl | go_simp | (go_simp; rfl))) ⟨_, rfl, Bel.refl W, rfl⟩
      | 3, hoi =>
        simp only [List.getElem?_toArray, List.getElem?_cons_succ, List.getElem?_cons_zero, Option.some.injEq] at hoi
        subst hoi
        refine Reg.ob_plain rfl ?_
        have e2 : a.eval (.tmp 2) = .bool o := old 2 (by kernel_rfl)
        refine Reg.wp_val (W' := W) (v := _) (by simp only [execOp, e2, Reg.eval_const]; rfl) ⟨_, rfl, Bel.refl W, rfl⟩
      | 4, hoi =>
        simp only [List.getElem?_toArray, List.getElem?_cons_succ, List.getElem?_cons_zero, Option.some.injEq] at hoi
        subst hoi
        refine Reg.ob_plain rfl ?_
        have e42 : a.eval (.tmp 42) = .slice A10 n10 c10 := need 0 _ 42 rfl rfl (by kernel_rfl)
        have e44 : a.eval (.tmp 44) = .int .u64 (MWkb.u64 srs) := need 2 _ 44 rfl rfl (by kernel_rfl)
        have e45 : a.eval (.tmp 45) = .bool o := need 3 _ 45 rfl rfl (by kernel_rfl)
        refine Reg.wp_call (f := 68) (args := #[.slice A10 n10 c10, .int .u64 (MWkb.u64 srs), .int .i64 4, .bool o]) (by simp only [execOp, e42, e44, e45, Reg.eval_const, resolve, invoke, List.map_toArray, List.map_cons, List.map_nil]; go_simp) ?_
        refine (HPU.out W hW).mono ?_
        rintro e W' ⟨v, rfl, hr, hb⟩; exact ⟨v, rfl, v, rfl, hb, hr.lower hW.size⟩
      | 5, hoi =>
        simp only [List.getElem?_toArray, List.getElem?_cons_succ, List.getElem?_cons_zero, Option.some.injEq] at hoi
        subst hoi
        refine Reg.ob_plain rfl ?_
        have e11 : a.eval (.tmp 11) = .slice none 0 0 := old 11 (by kernel_rfl)
        refine Reg.wp_val (W' := W) (v := _) (by simp only [execOp, e11, Reg.eval_const]; rfl) ⟨_, rfl, Bel.refl W, rfl⟩
      | 6, hoi =>
        simp only [List.getElem?_toArray, List.getElem?_cons_succ, List.getElem?_cons_zero, Option.some.injEq] at hoi
        subst hoi
        refine Reg.ob_plain rfl ?_
        have e4 : a.eval (.tmp 4) = .pointer (some ⟨gs, 0, none⟩) := old 4 (by kernel_rfl)
        obtain ⟨c0, c1, c2⟩ := Blk.cells3 (Blk.bel HS5.out hW)
        refine Reg.wp_val (W' := W) (v := .agg #[.int .i64 kd, .slice u1 u2 u3, .slice u4 u5 u6]) (by simp only [execOp, e4, Reg.eval_const, resolve, invoke, builtin, List.map_toArray, List.map_cons, List.map_nil, Option.map_some, Option.map_none]; (first | rfl | go_simp | (go_simp; rfl))) ⟨_, rfl, Bel.refl W, rfl⟩
      | 7, hoi =>
        simp only [List.getElem?_toArray, List.getElem?_cons_succ, List.getElem?_cons_zero, Option.some.injEq] at hoi
        subst hoi
        refine Reg.ob_plain rfl ?_
        have e2 : a.eval (.tmp 2) = .bool o := old 2 (by kernel_rfl)
        refine Reg.wp_val (W' := W) (v := _) (by simp only [execOp, e2, Reg.eval_const]; rfl) ⟨_, rfl, Bel.refl W, rfl⟩
      | 8, hoi =>
        simp only [List.getElem?_toArray, List.getElem?_cons_succ, List.getElem?_cons_zero, Option.some.injEq] at hoi
        subst hoi
        refine Reg.ob_plain rfl ?_
        have e48 : a.eval (.tmp 48) = .agg #[.int .i64 kd, .slice u1 u2 u3, .slice u4 u5 u6] := need 6 _ 48 rfl rfl (by kernel_rfl)
        have e49 : a.eval (.tmp 49) = .bool o := need 7 _ 49 rfl rfl (by kernel_rfl)
        refine Reg.wp_call (f := 35) (args := #[.agg #[.int .i64 kd, .slice u1 u2 u3, .slice u4 u5 u6], .bool o]) (by simp only [execOp, e48, e49, Reg.eval_const, resolve, invoke, List.map_toArray, List.map_cons, List.map_nil]; go_simp) ?_
        refine (HEN.out W hW).mono ?_
        rintro e W' ⟨v, rfl, hr, hb⟩; exact ⟨v, rfl, v, rfl, hb.out, hr.out.lower hW.size⟩
      | 9, hoi =>
        simp only [List.getElem?_toArray, List.getElem?_cons_succ, List.getElem?_cons_zero, Option.some.injEq] at hoi
        subst hoi
        refine Reg.ob_plain rfl ?_
        have r46 := need 4 _ 46 rfl rfl (by kernel_rfl)
        simp only at r46
        obtain ⟨x46, e46⟩ : ∃ x, a.eval (.tmp 46) = x := ⟨_, rfl⟩
        rw [← Reg.eval_tmp, e46] at r46
        have e47 : a.eval (.tmp 47) = .slice none 0 0 := need 5 _ 47 rfl rfl (by kernel_rfl)
        have r50 := need 8 _ 50 rfl rfl (by kernel_rfl)
        simp only at r50
        obtain ⟨x50, e50⟩ : ∃ x, a.eval (.tmp 50) = x := ⟨_, rfl⟩
        rw [← Reg.eval_tmp, e50] at r50
        obtain ⟨A1, k1, hx46, _, hC1⟩ := r46.reads
        obtain ⟨A2, k2, hx50, _, hC2⟩ := r50.reads
        subst hx46
        subst hx50
        have hal : Bel W (W.alloc (.cells #[.slice A1 L0.length k1, .slice none 0 0, .slice A2 L2.length k2] 49)) := (Bel.refl W).alloc (Nat.le_refl _) _
        refine Reg.wp_val (W' := W.alloc (.cells #[.slice A1 L0.length k1, .slice none 0 0, .slice A2 L2.length k2] 49)) (v := .slice (some ⟨W.heap.size, 0, none⟩) 3 3) (by simp only [execOp, e46, e47, e50, Reg.eval_const, resolve, invoke, List.map_toArray, List.map_cons, List.map_nil]; go_simp) ⟨_, rfl, hal, W.heap.size, A1, A2, k1, k2, rfl, Blk.new W _ _, hC1.below hal, hC2.below hal⟩
      | 10, hoi =>
        simp only [List.getElem?_toArray, List.getElem?_cons_succ, List.getElem?_cons_zero, Option.some.injEq] at hoi
        subst hoi
        refine Reg.ob_plain rfl ?_
        have r51 := need 9 _ 51 rfl rfl (by kernel_rfl)
        simp only at r51
        obtain ⟨x51, e51⟩ : ∃ x, a.eval (.tmp 51) = x := ⟨_, rfl⟩
        rw [← Reg.eval_tmp, e51] at r51
        obtain ⟨gq, A1, A2, k1, k2, hx51, hb51, hC1, hC2⟩ := r51
        subst hx51
        refine Reg.wp_call (f := 67) (args := #[.slice (some ⟨gq, 0, none⟩) 3 3]) (by simp only [execOp, e51, Reg.eval_const, resolve, invoke, List.map_toArray, List.map_cons, List.map_nil]; go_simp) ?_
        refine (concat_calls gq A1 none A2 k1 0 k2 L0 L1 L2 W (by rw [HN11.out]; exact hb51) hC1 (HC11.out.below hW) hC2 HLL.out).mono ?_
        rintro e W' ⟨v, rfl, hr, hb⟩; exact ⟨v, rfl, v, rfl, hb.out, hr.out.lower hW.size⟩
      | 11, hoi =>
        simp only [List.getElem?_toArray, List.getElem?_cons_succ, List.getElem?_cons_zero, Option.some.injEq] at hoi
        subst hoi
        refine Reg.ob_plain rfl ?_
        have r52 := need 10 _ 52 rfl rfl (by kernel_rfl)
        simp only at r52
        obtain ⟨x52, e52⟩ : ∃ x, a.eval (.tmp 52) = x := ⟨_, rfl⟩
        rw [← Reg.eval_tmp, e52] at r52
        refine Reg.wp_val (W' := W) (v := _) (by simp only [execOp, e52, Reg.eval_const]; rfl) ⟨_, rfl, Bel.refl W, r52⟩
      | n + 12, hoi => simp at hoi
    · intro a w9 hW hsize hdef got same did
      have ha := Reg.act_of [42, 43, 44, 45, 46, 47, 48, 49, 50, 51, 52, 8] hsize hdef same (by kernel_rfl)
      simp only [List.foldl_cons, List.foldl_nil] at ha
      generalize a.tmps.getD 42 undef = y42 at ha
      generalize a.tmps.getD 43 undef = y43 at ha
      generalize a.tmps.getD 44 undef = y44 at ha
      generalize a.tmps.getD 45 undef = y45 at ha
      generalize a.tmps.getD 46 undef = y46 at ha
      generalize a.tmps.getD 47 undef = y47 at ha
      generalize a.tmps.getD 48 undef = y48 at ha
      generalize a.tmps.getD 49 undef = y49 at ha
      generalize a.tmps.getD 50 undef = y50 at ha
      generalize a.tmps.getD 51 undef = y51 at ha
      generalize a.tmps.getD 52 undef = y52 at ha
      have k8 := got 11 _ 8 rfl rfl
      simp only at k8
      generalize a.tmps.getD 8 undef = y8 at ha k8
      clear got same hsize hdef did
      subst ha
      simp only [List.setIfInBounds_toArray, List.set_cons_zero, List.set_cons_succ]
      go_wp2
      go_ret
      exact ⟨_, rfl, by
        have h10 : blobL o false srs s b = L0 ++ L1 ++ L2 := by rw [← HL0E.out, ← HL2.out, ← HHD.out, ← HL1E.out]; unfold blobL; rw [HBN.out]; rfl
        rw [HBL.out, h10]
        exact RB.lower k8 HBw5.out.size, bthen HBw5.out hW⟩
  · have hcv := Lib.run_convert_bytes_const (P := Tryd.prog) W4 49 5 #[.int .u8 71, .int .u8 80, .int .u8 0] 3 3 Tryd.underlying49 Tryd.underlying5
    have HBa : Hid (Bel W4 (W4.alloc (.cells #[.int .u8 71, .int .u8 80, .int .u8 0] 5 (3, 4)))) := Lib.hid ((Bel.refl W4).alloc (Nat.le_refl _) _)
    have HBb : Hid (Bel W4 ((W4.alloc (.cells #[.int .u8 71, .int .u8 80, .int .u8 0] 5 (3, 4))).alloc (.cells #[.bool o, .bool true, .bool false] 4))) := Lib.hid (HBa.out.alloc HBa.out.size _)
    have HFL := Lib.hid (flags_calls o true false (W4.heap.size + 1) _ (Blk.new_at (W := W4.alloc (.cells #[.int .u8 71, .int .u8 80, .int .u8 0] 5 (3, 4))) (g := W4.heap.size + 1) (by simp) #[.bool o, .bool true, .bool false] 4))
    have HC0 := Lib.hid (fun j => World.cell?_alloc_mark W4 #[.int .u8 71, .int .u8 80, .int .u8 0] 5 (3, 4) j)
    have hgx := Blk.lt HX4.out
    go_upto_region 6 with (first
      | (at_builtin; refine appHead (W0 := w) (.tmp 29) (.tmp 36) rfl rfl W4.heap.size _ rfl rfl HBL5.out.size (H50.out 0 _ rfl) (H50.out 1 _ rfl) (H50.out 2 _ rfl) ?_; intro v6 w6 HR6 HB6)
      | (go_at_call 65; refine (HFL.out).mono ?_; rintro e w5 ⟨rfl, hb5⟩; have H50 : Hid (∀ (j : Nat) (u : Value), (#[(.int .u8 71 : Value), .int .u8 80, .int .u8 0])[j]? = some u → w5.cell? ⟨W4.heap.size, j, none⟩ = some u) := Lib.hid (fun j u hj => kc (bthen ((Bel.refl _).alloc (Nat.le_refl _) _) hb5) ((HC0.out j).trans hj)); have HBL5 := Lib.hid (bthen HB4.out (bthen HBb.out hb5))))
    obtain ⟨A10, n10, c10, hv6⟩ := RB.sl HR6.out
    subst hv6
    have HBw6 := Lib.hid (bthen HBL5.out HB6.out)
    have HS6 := Lib.hid (Blk.bel HS4.out (bthen (bthen HBb.out hb5) HB6.out))
    have HX6 := Lib.hid (Blk.bel HX4.out (bthen (bthen HBb.out hb5) HB6.out))
    clear hcv HFL HC0 hgx H50 hb5 x0 x1 x2 x3 x4
    obtain ⟨x0, x1, x2, x3, x4⟩ := Blk.cells5 HX6.out
    obtain ⟨s0, s1, s2⟩ := Blk.cells3 HS6.out
    have HC7 := Lib.hid (HCR.out w6)
    have HBN2 := HBN.out
    go_upto_region 9 with (go_at_call 66; refine (HC7.out).mono ?_; rintro e w5 ⟨v7, rfl, hr7, hb7⟩)
    clear HBN2
    obtain ⟨A11, c11, hv7, hc11, hC11⟩ := hr7.out.reads
    obtain ⟨L1, hL1⟩ : ∃ l, corn o b = l := ⟨_, rfl⟩
    have HL1 : Hid (L1.length ≤ 32) := Lib.hid (by rw [← hL1, corn_len]; omega)
    have HL1E := Lib.hid hL1
    rw [hL1] at hv7 hC11
    obtain ⟨n11, hn11⟩ : ∃ n, L1.length = n := ⟨_, rfl⟩
    rw [hn11] at hv7
    have HN11 := Lib.hid hn11
    have HC11 := Lib.hid hC11
    subst hv7
    have HBw5 := Lib.hid (bthen HBw6.out hb7.out)
    have HS5 := Lib.hid (Blk.bel HS6.out hb7.out)
    have HR5 := Lib.hid (HR6.out.below hb7.out)
    clear hr7 hb7 hc11 hC11 hL1 hn11 x0 x1 x2 x3 x4 s0 s1 s2 HC7
    have HU := Lib.hid (u64w srs)
    obtain ⟨hd, hhd⟩ : ∃ l, [71, 80, 0, flagsV o true false] = l := ⟨_, rfl⟩
    have HHD := Lib.hid hhd
    have HHL : Hid (hd.length = 4) := Lib.hid (by rw [← hhd]; rfl)
    rw [hhd] at HR5
    clear hhd
    obtain ⟨L0, hL0⟩ : ∃ l, hd ++ MWkb.nm srs 4 o = l := ⟨_, rfl⟩
    have HL0 : Hid (L0.length = 8) := Lib.hid (by rw [← hL0, List.length_append, MWkb.nm4, HHL.out])
    have HPU : Hid (∀ W, Below w5.heap.size w5 W → Calls Tryd.prog 68 #[.slice A10 n10 c10, .int .u64 (MWkb.u64 srs), .int .i64 4, .bool o] W fun e w' => ∃ v, e = .returned v ∧ RB W w' v L0 ∧ Below W.heap.size W w') := Lib.hid (fun W h => by
      obtain ⟨A, c, e, hc, hC⟩ := HR5.out.reads
      injection e with e1 e2 e3
      subst e1 e3
      have h9 := octet_Put_calls A10 c10 hd (MWkb.u64 srs) 4 o W (hC.below h) hc (by have := HHL.out; omega) (MWkb.u64_in _).1 (MWkb.u64_in _).2
      rw [← e2] at h9
      have h10 : hd ++ MOct.putL (MWkb.u64 srs) 4 o = L0 := hL0
      rw [h10] at h9
      exact h9)
    have HL0E := Lib.hid hL0
    clear hL0
    obtain ⟨L2, hL2⟩ : ∃ l, MWkb.enc o s = l := ⟨_, rfl⟩
    have HL2 := Lib.hid hL2
    have HEN : Hid (∀ W, Bel w5 W → Calls Tryd.prog 35 #[.agg #[.int .i64 kd, .slice u1 u2 u3, .slice u4 u5 u6], .bool o] W fun e w' => ∃ v, e = .returned v ∧ Hid (RB W w' v L2) ∧ Hid (Bel W w')) := Lib.hid (fun W h => by
      have h1 := bthen HBw5.out h
      have h9 := HE.out W (by have := h1.size; have := HBB.out; omega) (by have := h1.size; have := HW2.out; omega) (HS.out.keep (KeepB.bel h1)) (HF.out.bel h1) (HN.out.below HW2.out h1)
      have h10 : encB o s = L2 := by unfold encB; rw [if_pos HCE.out, hL2]
      rw [h10] at h9
      exact h9)
    have HLL : Hid (L0.length + L1.length + L2.length < 100000000) := Lib.hid (by have := HL0.out; have := HL1.out; have := HEL.out; have := HLI.out; rw [hL2] at *; omega)
    clear hL2
    refine Reg.region_mono (P := Tryd.prog) (Ext := Bel) (R := fun i v W => match i with
        | 0 => v = .slice A10 n10 c10
        | 1 => v = .int .i64 srs
        | 2 => v = .int .u64 (MWkb.u64 srs)
        | 3 => v = .bool o
        | 4 => RB w5 W v L0
        | 5 => v = .slice A11 n11 c11
        | 6 => v = .agg #[.int .i64 kd, .slice u1 u2 u3, .slice u4 u5 u6]
        | 7 => v = .bool o
        | 8 => RB w5 W v L2
        | 9 => ∃ (g : Nat) (A1 A2 : Option Addr) (k1 k2 : Nat), v = .slice (some ⟨g, 0, none⟩) 3 3 ∧ Blk W g #[.slice A1 L0.length k1, .slice A11 n11 c11, .slice A2 L2.length k2] 49 ∧ CB W A1 L0 ∧ CB W A2 L2
        | 10 => RB w5 W v (L0 ++ L1 ++ L2)
        | 11 => RB w5 W v (L0 ++ L1 ++ L2)
        | _ => True) (fun W => Below w5.heap.size w5 W) rfl (by kernel_rfl) (by kernel_rfl) (Bel.drew w5) (fun W W' h h' => bthen h h') Bel.refl (by intro j v W W' hx h; split at h <;> first | exact h | exact RB.below h hx | (obtain ⟨g, A1, A2, k1, k2, h1, h2, h3, h4⟩ := h; exact ⟨g, A1, A2, k1, k2, h1, h2.bel hx, h3.below hx, h4.below hx⟩)) ?_ ?_
    · intro i oi hoi a W hW need old
      match i, hoi with
      | 0, hoi =>
        simp only [List.getElem?_toArray, List.getElem?_cons_succ, List.getElem?_cons_zero, Option.some.injEq] at hoi
        subst hoi
        refine Reg.ob_plain rfl ?_
        have e10 : a.eval (.tmp 10) = .slice A10 n10 c10 := old 10 (by kernel_rfl)
        refine Reg.wp_val (W' := W) (v := _) (by simp only [execOp, e10, Reg.eval_const]; rfl) ⟨_, rfl, Bel.refl W, rfl⟩
      | 1, hoi =>
        simp only [List.getElem?_toArray, List.getElem?_cons_succ, List.getElem?_cons_zero, Option.some.injEq] at hoi
        subst hoi
        refine Reg.ob_plain rfl ?_
        have e1 : a.eval (.tmp 1) = .int .i64 srs := old 1 (by kernel_rfl)
        refine Reg.wp_val (W' := W) (v := _) (by simp only [execOp, e1, Reg.eval_const]; rfl) ⟨_, rfl, Bel.refl W, rfl⟩
      | 2, hoi =>
        simp only [List.getElem?_toArray, List.getElem?_cons_succ, List.getElem?_cons_zero, Option.some.injEq] at hoi
        subst hoi
        refine Reg.ob_plain rfl ?_
        have e43 : a.eval (.tmp 43) = .int .i64 srs := need 1 _ 43 rfl rfl (by kernel_rfl)
        have hx := HU.out
        refine Reg.wp_val (W' := W) (v := .int .u64 (MWkb.u64 srs)) (by simp only [execOp, e43, Reg.eval_const, resolve, invoke, builtin, List.map_toArray, List.map_cons, List.map_nil, Option.map_some, Option.map_none]; (first | rfl | go_simp | (go_simp; rfl))) ⟨_, rfl, Bel.refl W, rfl⟩
      | 3, hoi =>
        simp only [List.getElem?_toArray, List.getElem?_cons_succ, List.getElem?_cons_zero, Option.some.injEq] at hoi
        subst hoi
        refine Reg.ob_plain rfl ?_
        have e2 : a.eval (.tmp 2) = .bool o := old 2 (by kernel_rfl)
        refine Reg.wp_val (W' := W) (v := _) (by simp only [execOp, e2, Reg.eval_const]; rfl) ⟨_, rfl, Bel.refl W, rfl⟩
      | 4, hoi =>
        simp only [List.getElem?_toArray, List.getElem?_cons_succ, List.getElem?_cons_zero, Option.some.injEq] at hoi
        subst hoi
        refine Reg.ob_plain rfl ?_
        have e42 : a.eval (.tmp 42) = .slice A10 n10 c10 := need 0 _ 42 rfl rfl (by kernel_rfl)
        have e44 : a.eval (.tmp 44) = .int .u64 (MWkb.u64 srs) := need 2 _ 44 rfl rfl (by kernel_rfl)
        have e45 : a.eval (.tmp 45) = .bool o := need 3 _ 45 rfl rfl (by kernel_rfl)
        refine Reg.wp_call (f := 68) (args := #[.slice A10 n10 c10, .int .u64 (MWkb.u64 srs), .int .i64 4, .bool o]) (by simp only [execOp, e42, e44, e45, Reg.eval_const, resolve, invoke, List.map_toArray, List.map_cons, List.map_nil]; go_simp) ?_
        refine (HPU.out W hW).mono ?_
        rintro e W' ⟨v, rfl, hr, hb⟩; exact ⟨v, rfl, v, rfl, hb, hr.lower hW.size⟩
      | 5, hoi =>
        simp only [List.getElem?_toArray, List.getElem?_cons_succ, List.getElem?_cons_zero, Option.some.injEq] at hoi
        subst hoi
        refine Reg.ob_plain rfl ?_
        have e11 : a.eval (.tmp 11) = .slice A11 n11 c11 := old 11 (by kernel_rfl)
        refine Reg.wp_val (W' := W) (v := _) (by simp only [execOp, e11, Reg.eval_const]; rfl) ⟨_, rfl, Bel.refl W, rfl⟩
      | 6, hoi =>
        simp only [List.getElem?_toArray, List.getElem?_cons_succ, List.getElem?_cons_zero, Option.some.injEq] at hoi
        subst hoi
        refine Reg.ob_plain rfl ?_
        have e4 : a.eval (.tmp 4) = .pointer (some ⟨gs, 0, none⟩) := old 4 (by kernel_rfl)
        obtain ⟨c0, c1, c2⟩ := Blk.cells3 (Blk.bel HS5.out hW)
        refine Reg.wp_val (W' := W) (v := .agg #[.int .i64 kd, .slice u1 u2 u3, .slice u4 u5 u6]) (by simp only [execOp, e4, Reg.eval_const, resolve, invoke, builtin, List.map_toArray, List.map_cons, List.map_nil, Option.map_some, Option.map_none]; (first | rfl | go_simp | (go_simp; rfl))) ⟨_, rfl, Bel.refl W, rfl⟩
      | 7, hoi =>
        simp only [List.getElem?_toArray, List.getElem?_cons_succ, List.getElem?_cons_zero, Option.some.injEq] at hoi
        subst hoi
        refine Reg.ob_plain rfl ?_
        have e2 : a.eval (.tmp 2) = .bool o := old 2 (by kernel_rfl)
        refine Reg.wp_val (W' := W) (v := _) (by simp only [execOp, e2, Reg.eval_const]; rfl) ⟨_, rfl, Bel.refl W, rfl⟩
      | 8, hoi =>
        simp only [List.getElem?_toArray, List.getElem?_cons_succ, List.getElem?_cons_zero, Option.some.injEq] at hoi
        subst hoi
        refine Reg.ob_plain rfl ?_
        have e48 : a.eval (.tmp 48) = .agg #[.int .i64 kd, .slice u1 u2 u3, .slice u4 u5 u6] := need 6 _ 48 rfl rfl (by kernel_rfl)
        have e49 : a.eval (.tmp 49) = .bool o := need 7 _ 49 rfl rfl (by kernel_rfl)
        refine Reg.wp_call (f := 35) (args := #[.agg #[.int .i64 kd, .slice u1 u2 u3, .slice u4 u5 u6], .bool o]) (by simp only [execOp, e48, e49, Reg.eval_const, resolve, invoke, List.map_toArray, List.map_cons, List.map_nil]; go_simp) ?_
        refine (HEN.out W hW).mono ?_
        rintro e W' ⟨v, rfl, hr, hb⟩; exact ⟨v, rfl, v, rfl, hb.out, hr.out.lower hW.size⟩
      | 9, hoi =>
        simp only [List.getElem?_toArray, List.getElem?_cons_succ, List.getElem?_cons_zero, Option.some.injEq] at hoi
        subst hoi
        refine Reg.ob_plain rfl ?_
        have r46 := need 4 _ 46 rfl rfl (by kernel_rfl)
        simp only at r46
        obtain ⟨x46, e46⟩ : ∃ x, a.eval (.tmp 46) = x := ⟨_, rfl⟩
        rw [← Reg.eval_tmp, e46] at r46
        have e47 : a.eval (.tmp 47) = .slice A11 n11 c11 := need 5 _ 47 rfl rfl (by kernel_rfl)
        have r50 := need 8 _ 50 rfl rfl (by kernel_rfl)
        simp only at r50
        obtain ⟨x50, e50⟩ : ∃ x, a.eval (.tmp 50) = x := ⟨_, rfl⟩
        rw [← Reg.eval_tmp, e50] at r50
        obtain ⟨A1, k1, hx46, _, hC1⟩ := r46.reads
        obtain ⟨A2, k2, hx50, _, hC2⟩ := r50.reads
        subst hx46
        subst hx50
        have hal : Bel W (W.alloc (.cells #[.slice A1 L0.length k1, .slice A11 n11 c11, .slice A2 L2.length k2] 49)) := (Bel.refl W).alloc (Nat.le_refl _) _
        refine Reg.wp_val (W' := W.alloc (.cells #[.slice A1 L0.length k1, .slice A11 n11 c11, .slice A2 L2.length k2] 49)) (v := .slice (some ⟨W.heap.size, 0, none⟩) 3 3) (by simp only [execOp, e46, e47, e50, Reg.eval_const, resolve, invoke, List.map_toArray, List.map_cons, List.map_nil]; go_simp) ⟨_, rfl, hal, W.heap.size, A1, A2, k1, k2, rfl, Blk.new W _ _, hC1.below hal, hC2.below hal⟩
      | 10, hoi =>
        simp only [List.getElem?_toArray, List.getElem?_cons_succ, List.getElem?_cons_zero, Option.some.injEq] at hoi
        subst hoi
        refine Reg.ob_plain rfl ?_
        have r51 := need 9 _ 51 rfl rfl (by kernel_rfl)
        simp only at r51
        obtain ⟨x51, e51⟩ : ∃ x, a.eval (.tmp 51) = x := ⟨_, rfl⟩
        rw [← Reg.eval_tmp, e51] at r51
        obtain ⟨gq, A1, A2, k1, k2, hx51, hb51, hC1, hC2⟩ := r51
        subst hx51
        refine Reg.wp_call (f := 67) (args := #[.slice (some ⟨gq, 0, none⟩) 3 3]) (by simp only [execOp, e51, Reg.eval_const, resolve, invoke, List.map_toArray, List.map_cons, List.map_nil]; go_simp) ?_
        refine (concat_calls gq A1 A11 A2 k1 c11 k2 L0 L1 L2 W (by rw [HN11.out]; exact hb51) hC1 (HC11.out.below hW) hC2 HLL.out).mono ?_
        rintro e W' ⟨v, rfl, hr, hb⟩; exact ⟨v, rfl, v, rfl, hb.out, hr.out.lower hW.size⟩
      | 11, hoi =>
        simp only [List.getElem?_toArray, List.getElem?_cons_succ, List.getElem?_cons_zero, Option.some.injEq] at hoi
        subst hoi
        refine Reg.ob_plain rfl ?_
        have r52 := need 10 _ 52 rfl rfl (by kernel_rfl)
        simp only at r52
        obtain ⟨x52, e52⟩ : ∃ x, a.eval (.tmp 52) = x := ⟨_, rfl⟩
        rw [← Reg.eval_tmp, e52] at r52
        refine Reg.wp_val (W' := W) (v := _) (by simp only [execOp, e52, Reg.eval_const]; rfl) ⟨_, rfl, Bel.refl W, r52⟩
      | n + 12, hoi => simp at hoi
    · intro a w9 hW hsize hdef got same did
      have ha := Reg.act_of [42, 43, 44, 45, 46, 47, 48, 49, 50, 51, 52, 8] hsize hdef same (by kernel_rfl)
      simp only [List.foldl_cons, List.foldl_nil] at ha
      generalize a.tmps.getD 42 undef = y42 at ha
      generalize a.tmps.getD 43 undef = y43 at ha
      generalize a.tmps.getD 44 undef = y44 at ha
      generalize a.tmps.getD 45 undef = y45 at ha
      generalize a.tmps.getD 46 undef = y46 at ha
      generalize a.tmps.getD 47 undef = y47 at ha
      generalize a.tmps.getD 48 undef = y48 at ha
      generalize a.tmps.getD 49 undef = y49 at ha
      generalize a.tmps.getD 50 undef = y50 at ha
      generalize a.tmps.getD 51 undef = y51 at ha
      generalize a.tmps.getD 52 undef = y52 at ha
      have k8 := got 11 _ 8 rfl rfl
      simp only at k8
      generalize a.tmps.getD 8 undef = y8 at ha k8
      clear got same hsize hdef did
      subst ha
      simp only [List.setIfInBounds_toArray, List.set_cons_zero, List.set_cons_succ]
      go_wp2
      go_ret
      exact ⟨_, rfl, by
        have h10 : blobL o true srs s b = L0 ++ L1 ++ L2 := by rw [← HL0E.out, ← HL2.out, ← HHD.out, ← HL1E.out]; unfold blobL; rw [HBN.out]; rfl
        rw [HBL.out, h10]
        exact RB.lower k8 HBw5.out.size, bthen HBw5.out hW⟩
  · have hcv := Lib.run_convert_bytes_const (P := Tryd.prog) W4 49 5 #[.int .u8 71, .int .u8 80, .int .u8 0] 3 3 Tryd.underlying49 Tryd.underlying5
    have HBa : Hid (Bel W4 (W4.alloc (.cells #[.int .u8 71, .int .u8 80, .int .u8 0] 5 (3, 4)))) := Lib.hid ((Bel.refl W4).alloc (Nat.le_refl _) _)
    have HBb : Hid (Bel W4 ((W4.alloc (.cells #[.int .u8 71, .int .u8 80, .int .u8 0] 5 (3, 4))).alloc (.cells #[.bool o, .bool false, .bool true] 4))) := Lib.hid (HBa.out.alloc HBa.out.size _)
    have HFL := Lib.hid (flags_calls o false true (W4.heap.size + 1) _ (Blk.new_at (W := W4.alloc (.cells #[.int .u8 71, .int .u8 80, .int .u8 0] 5 (3, 4))) (g := W4.heap.size + 1) (by simp) #[.bool o, .bool false, .bool true] 4))
    have HC0 := Lib.hid (fun j => World.cell?_alloc_mark W4 #[.int .u8 71, .int .u8 80, .int .u8 0] 5 (3, 4) j)
    have hgx := Blk.lt HX4.out
    go_upto_region 6 with (first
      | (at_builtin; refine appHead (W0 := w) (.tmp 29) (.tmp 36) rfl rfl W4.heap.size _ rfl rfl HBL5.out.size (H50.out 0 _ rfl) (H50.out 1 _ rfl) (H50.out 2 _ rfl) ?_; intro v6 w5 HR6 HB6)
      | (go_at_call 65; refine (HFL.out).mono ?_; rintro e wf ⟨rfl, hb5⟩; have H50 : Hid (∀ (j : Nat) (u : Value), (#[(.int .u8 71 : Value), .int .u8 80, .int .u8 0])[j]? = some u → wf.cell? ⟨W4.heap.size, j, none⟩ = some u) := Lib.hid (fun j u hj => kc (bthen ((Bel.refl _).alloc (Nat.le_refl _) _) hb5) ((HC0.out j).trans hj)); have HBL5 := Lib.hid (bthen HB4.out (bthen HBb.out hb5))))
    obtain ⟨A10, n10, c10, hv6⟩ := RB.sl HR6.out
    subst hv6
    have HBw5 := Lib.hid (bthen HBL5.out HB6.out)
    have HS6 := Lib.hid (Blk.bel HS4.out (bthen (bthen HBb.out hb5) HB6.out))
    have HX6 := Lib.hid (Blk.bel HX4.out (bthen (bthen HBb.out hb5) HB6.out))
    clear hcv HFL HC0 hgx H50 hb5 x0 x1 x2 x3 x4
    obtain ⟨x0, x1, x2, x3, x4⟩ := Blk.cells5 HX6.out
    obtain ⟨s0, s1, s2⟩ := Blk.cells3 HS6.out
    obtain ⟨L1, hL1⟩ : ∃ l : List Int, [] = l := ⟨_, rfl⟩
    have HL1 : Hid (L1.length ≤ 32) := Lib.hid (by rw [← hL1]; simp)
    have HL1E := Lib.hid hL1
    have HN11 : Hid (L1.length = 0) := Lib.hid (by rw [← hL1]; rfl)
    have HC11 : Hid (CB w5 none L1) := Lib.hid (by rw [← hL1]; exact CB.nil _)
    have HS5 := HS6
    have HR5 := HR6
    go_upto_region 9 with (fail)
    clear hL1 x0 x1 x2 x3 x4 s0 s1 s2
    have HU := Lib.hid (u64w srs)
    obtain ⟨hd, hhd⟩ : ∃ l, [71, 80, 0, flagsV o false true] = l := ⟨_, rfl⟩
    have HHD := Lib.hid hhd
    have HHL : Hid (hd.length = 4) := Lib.hid (by rw [← hhd]; rfl)
    rw [hhd] at HR5
    clear hhd
    obtain ⟨L0, hL0⟩ : ∃ l, hd ++ MWkb.nm srs 4 o = l := ⟨_, rfl⟩
    have HL0 : Hid (L0.length = 8) := Lib.hid (by rw [← hL0, List.length_append, MWkb.nm4, HHL.out])
    have HPU : Hid (∀ W, Below w5.heap.size w5 W → Calls Tryd.prog 68 #[.slice A10 n10 c10, .int .u64 (MWkb.u64 srs), .int .i64 4, .bool o] W fun e w' => ∃ v, e = .returned v ∧ RB W w' v L0 ∧ Below W.heap.size W w') := Lib.hid (fun W h => by
      obtain ⟨A, c, e, hc, hC⟩ := HR5.out.reads
      injection e with e1 e2 e3
      subst e1 e3
      have h9 := octet_Put_calls A10 c10 hd (MWkb.u64 srs) 4 o W (hC.below h) hc (by have := HHL.out; omega) (MWkb.u64_in _).1 (MWkb.u64_in _).2
      rw [← e2] at h9
      have h10 : hd ++ MOct.putL (MWkb.u64 srs) 4 o = L0 := hL0
      rw [h10] at h9
      exact h9)
    have HL0E := Lib.hid hL0
    clear hL0
    obtain ⟨L2, hL2⟩ : ∃ l, MWkb.enc o s = l := ⟨_, rfl⟩
    have HL2 := Lib.hid hL2
    have HEN : Hid (∀ W, Bel w5 W → Calls Tryd.prog 35 #[.agg #[.int .i64 kd, .slice u1 u2 u3, .slice u4 u5 u6], .bool o] W fun e w' => ∃ v, e = .returned v ∧ Hid (RB W w' v L2) ∧ Hid (Bel W w')) := Lib.hid (fun W h => by
      have h1 := bthen HBw5.out h
      have h9 := HE.out W (by have := h1.size; have := HBB.out; omega) (by have := h1.size; have := HW2.out; omega) (HS.out.keep (KeepB.bel h1)) (HF.out.bel h1) (HN.out.below HW2.out h1)
      have h10 : encB o s = L2 := by unfold encB; rw [if_pos HCE.out, hL2]
      rw [h10] at h9
      exact h9)
    have HLL : Hid (L0.length + L1.length + L2.length < 100000000) := Lib.hid (by have := HL0.out; have := HL1.out; have := HEL.out; have := HLI.out; rw [hL2] at *; omega)
    clear hL2
    refine Reg.region_mono (P := Tryd.prog) (Ext := Bel) (R := fun i v W => match i with
        | 0 => v = .slice A10 n10 c10
        | 1 => v = .int .i64 srs
        | 2 => v = .int .u64 (MWkb.u64 srs)
        | 3 => v = .bool o
        | 4 => RB w5 W v L0
        | 5 => v = .slice none 0 0
        | 6 => v = .agg #[.int .i64 kd, .slice u1 u2 u3, .slice u4 u5 u6]
        | 7 => v = .bool o
        | 8 => RB w5 W v L2
        | 9 => ∃ (g : Nat) (A1 A2 : Option Addr) (k1 k2 : Nat), v = .slice (some ⟨g, 0, none⟩) 3 3 ∧ Blk W g #[.slice A1 L0.length k1, .slice none 0 0, .slice A2 L2.length k2] 49 ∧ CB W A1 L0 ∧ CB W A2 L2
        | 10 => RB w5 W v (L0 ++ L1 ++ L2)
        | 11 => RB w5 W v (L0 ++ L1 ++ L2)
        | _ => True) (fun W => Below w5.heap.size w5 W) rfl (by kernel_rfl) (by kernel_rfl) (Bel.drew w5) (fun W W' h h' => bthen h h') Bel.refl (by intro j v W W' hx h; split at h <;> first | exact h | exact RB.below h hx | (obtain ⟨g, A1, A2, k1, k2, h1, h2, h3, h4⟩ := h; exact ⟨g, A1, A2, k1, k2, h1, h2.bel hx, h3.below hx, h4.below hx⟩)) ?_ ?_
    · intro i oi hoi a W hW need old
      match i, hoi with
      | 0, hoi =>
        simp only [List.getElem?_toArray, List.getElem?_cons_succ, List.getElem?_cons_zero, Option.some.injEq] at hoi
        subst hoi
        refine Reg.ob_plain rfl ?_
        have e10 : a.eval (.tmp 10) = .slice A10 n10 c10 := old 10 (by kernel_rfl)
        refine Reg.wp_val (W' := W) (v := _) (by simp only [execOp, e10, Reg.eval_const]; rfl) ⟨_, rfl, Bel.refl W, rfl⟩
      | 1, hoi =>
        simp only [List.getElem?_toArray, List.getElem?_cons_succ, List.getElem?_cons_zero, Option.some.injEq] at hoi
        subst hoi
        refine Reg.ob_plain rfl ?_
        have e1 : a.eval (.tmp 1) = .int .i64 srs := old 1 (by kernel_rfl)
        refine Reg.wp_val (W' := W) (v := _) (by simp only [execOp, e1, Reg.eval_const]; rfl) ⟨_, rfl, Bel.refl W, rfl⟩
      | 2, hoi =>
        simp only [List.getElem?_toArray, List.getElem?_cons_succ, List.getElem?_cons_zero, Option.some.injEq] at hoi
        subst hoi
        refine Reg.ob_plain rfl ?_
        have e43 : a.eval (.tmp 43) = .int .i64 srs := need 1 _ 43 rfl rfl (by kernel_rfl)
        have hx := HU.out
        refine Reg.wp_val (W' := W) (v := .int .u64 (MWkb.u64 srs)) (by simp only [execOp, e43, Reg.eval_const, resolve, invoke, builtin, List.map_toArray, List.map_cons, List.map_nil, Option.map_some, Option.map_none]; (first | rfl | go_simp | (go_simp; rfl))) ⟨_, rfl, Bel.refl W, rfl⟩
      | 3, hoi =>
        simp only [List.getElem?_toArray, List.getElem?_cons_succ, List.getElem?_cons_zero, Option.some.injEq] at hoi
        subst hoi
        refine Reg.ob_plain rfl ?_
        have e2 : a.eval (.tmp 2) = .bool o := old 2 (by kernel_rfl)
        refine Reg.wp_val (W' := W) (v := _) (by simp only [execOp, e2, Reg.eval_const]; rfl) ⟨_, rfl, Bel.refl W, rfl⟩
      | 4, hoi =>
        simp only [List.getElem?_toArray, List.getElem?_cons_succ, List.getElem?_cons_zero, Option.some.injEq] at hoi
        subst hoi
        refine Reg.ob_plain rfl ?_
        have e42 : a.eval (.tmp 42) = .slice A10 n10 c10 := need 0 _ 42 rfl rfl (by kernel_rfl)
        have e44 : a.eval (.tmp 44) = .int .u64 (MWkb.u64 srs) := need 2 _ 44 rfl rfl (by kernel_rfl)
        have e45 : a.eval (.tmp 45) = .bool o := need 3 _ 45 rfl rfl (by kernel_rfl)
        refine Reg.wp_call (f := 68) (args := #[.slice A10 n10 c10, .int .u64 (MWkb.u64 srs), .int .i64 4, .bool o]) (by simp only [execOp, e42, e44, e45, Reg.eval_const, resolve, invoke, List.map_toArray, List.map_cons, List.map_nil]; go_simp) ?_
        refine (HPU.out W hW).mono ?_
        rintro e W' ⟨v, rfl, hr, hb⟩; exact ⟨v, rfl, v, rfl, hb, hr.lower hW.size⟩
      | 5, hoi =>
        simp only [List.getElem?_toArray, List.getElem?_cons_succ, List.getElem?_cons_zero, Option.some.injEq] at hoi
        subst hoi
        refine Reg.ob_plain rfl ?_
        have e11 : a.eval (.tmp 11) = .slice none 0 0 := old 11 (by kernel_rfl)
        refine Reg.wp_val (W' := W) (v := _) (by simp only [execOp, e11, Reg.eval_const]; rfl) ⟨_, rfl, Bel.refl W, rfl⟩
      | 6, hoi =>
        simp only [List.getElem?_toArray, List.getElem?_cons_succ, List.getElem?_cons_zero, Option.some.injEq] at hoi
        subst hoi
        refine Reg.ob_plain rfl ?_
        have e4 : a.eval (.tmp 4) = .pointer (some ⟨gs, 0, none⟩) := old 4 (by kernel_rfl)
        obtain ⟨c0, c1, c2⟩ := Blk.cells3 (Blk.bel HS5.out hW)
        refine Reg.wp_val (W' := W) (v := .agg #[.int .i64 kd, .slice u1 u2 u3, .slice u4 u5 u6]) (by simp only [execOp, e4, Reg.eval_const, resolve, invoke, builtin, List.map_toArray, List.map_cons, List.map_nil, Option.map_some, Option.map_none]; (first | rfl | go_simp | (go_simp; rfl))) ⟨_, rfl, Bel.refl W, rfl⟩
      | 7, hoi =>
        simp only [List.getElem?_toArray, List.getElem?_cons_succ, List.getElem?_cons_zero, Option.some.injEq] at hoi
        subst hoi
        refine Reg.ob_plain rfl ?_
        have e2 : a.eval (.tmp 2) = .bool o := old 2 (by kernel_rfl)
        refine Reg.wp_val (W' := W) (v := _) (by simp only [execOp, e2, Reg.eval_const]; rfl) ⟨_, rfl, Bel.refl W, rfl⟩
      | 8, hoi =>
        simp only [List.getElem?_toArray, List.getElem?_cons_succ, List.getElem?_cons_zero, Option.some.injEq] at hoi
        subst hoi
        refine Reg.ob_plain rfl ?_
        have e48 : a.eval (.tmp 48) = .agg #[.int .i64 kd, .slice u1 u2 u3, .slice u4 u5 u6] := need 6 _ 48 rfl rfl (by kernel_rfl)
        have e49 : a.eval (.tmp 49) = .bool o := need 7 _ 49 rfl rfl (by kernel_rfl)
        refine Reg.wp_call (f := 35) (args := #[.agg #[.int .i64 kd, .slice u1 u2 u3, .slice u4 u5 u6], .bool o]) (by simp only [execOp, e48, e49, Reg.eval_const, resolve, invoke, List.map_toArray, List.map_cons, List.map_nil]; go_simp) ?_
        refine (HEN.out W hW).mono ?_
        rintro e W' ⟨v, rfl, hr, hb⟩; exact ⟨v, rfl, v, rfl, hb.out, hr.out.lower hW.size⟩
      | 9, hoi =>
        simp only [List.getElem?_toArray, List.getElem?_cons_succ, List.getElem?_cons_zero, Option.some.injEq] at hoi
        subst hoi
        refine Reg.ob_plain rfl ?_
        have r46 := need 4 _ 46 rfl rfl (by kernel_rfl)
        simp only at r46
        obtain ⟨x46, e46⟩ : ∃ x, a.eval (.tmp 46) = x := ⟨_, rfl⟩
        rw [← Reg.eval_tmp, e46] at r46
        have e47 : a.eval (.tmp 47) = .slice none 0 0 := need 5 _ 47 rfl rfl (by kernel_rfl)
        have r50 := need 8 _ 50 rfl rfl (by kernel_rfl)
        simp only at r50
        obtain ⟨x50, e50⟩ : ∃ x, a.eval (.tmp 50) = x := ⟨_, rfl⟩
        rw [← Reg.eval_tmp, e50] at r50
        obtain ⟨A1, k1, hx46, _, hC1⟩ := r46.reads
        obtain ⟨A2, k2, hx50, _, hC2⟩ := r50.reads
        subst hx46
        subst hx50
        have hal : Bel W (W.alloc (.cells #[.slice A1 L0.length k1, .slice none 0 0, .slice A2 L2.length k2] 49)) := (Bel.refl W).alloc (Nat.le_refl _) _
        refine Reg.wp_val (W' := W.alloc (.cells #[.slice A1 L0.length k1, .slice none 0 0, .slice A2 L2.length k2] 49)) (v := .slice (some ⟨W.heap.size, 0, none⟩) 3 3) (by simp only [execOp, e46, e47, e50, Reg.eval_const, resolve, invoke, List.map_toArray, List.map_cons, List.map_nil]; go_simp) ⟨_, rfl, hal, W.heap.size, A1, A2, k1, k2, rfl, Blk.new W _ _, hC1.below hal, hC2.below hal⟩
      | 10, hoi =>
        simp only [List.getElem?_toArray, List.getElem?_cons_succ, List.getElem?_cons_zero, Option.some.injEq] at hoi
        subst hoi
        refine Reg.ob_plain rfl ?_
        have r51 := need 9 _ 51 rfl rfl (by kernel_rfl)
        simp only at r51
        obtain ⟨x51, e51⟩ : ∃ x, a.eval (.tmp 51) = x := ⟨_, rfl⟩
        rw [← Reg.eval_tmp, e51] at r51
        obtain ⟨gq, A1, A2, k1, k2, hx51, hb51, hC1, hC2⟩ := r51
        subst hx51
        refine Reg.wp_call (f := 67) (args := #[.slice (some ⟨gq, 0, none⟩) 3 3]) (by simp only [execOp, e51, Reg.eval_const, resolve, invoke, List.map_toArray, List.map_cons, List.map_nil]; go_simp) ?_
        refine (concat_calls gq A1 none A2 k1 0 k2 L0 L1 L2 W (by rw [HN11.out]; exact hb51) hC1 (HC11.out.below hW) hC2 HLL.out).mono ?_
        rintro e W' ⟨v, rfl, hr, hb⟩; exact ⟨v, rfl, v, rfl, hb.out, hr.out.lower hW.size⟩
      | 11, hoi =>
        simp only [List.getElem?_toArray, List.getElem?_cons_succ, List.getElem?_cons_zero, Option.some.injEq] at hoi
        subst hoi
        refine Reg.ob_plain rfl ?_
        have r52 := need 10 _ 52 rfl rfl (by kernel_rfl)
        simp only at r52
        obtain ⟨x52, e52⟩ : ∃ x, a.eval (.tmp 52) = x := ⟨_, rfl⟩
        rw [← Reg.eval_tmp, e52] at r52
        refine Reg.wp_val (W' := W) (v := _) (by simp only [execOp, e52, Reg.eval_const]; rfl) ⟨_, rfl, Bel.refl W, r52⟩
      | n + 12, hoi => simp at hoi
    · intro a w9 hW hsize hdef got same did
      have ha := Reg.act_of [42, 43, 44, 45, 46, 47, 48, 49, 50, 51, 52, 8] hsize hdef same (by kernel_rfl)
      simp only [List.foldl_cons, List.foldl_nil] at ha
      generalize a.tmps.getD 42 undef = y42 at ha
      generalize a.tmps.getD 43 undef = y43 at ha
      generalize a.tmps.getD 44 undef = y44 at ha
      generalize a.tmps.getD 45 undef = y45 at ha
      generalize a.tmps.getD 46 undef = y46 at ha
      generalize a.tmps.getD 47 undef = y47 at ha
      generalize a.tmps.getD 48 undef = y48 at ha
      generalize a.tmps.getD 49 undef = y49 at ha
      generalize a.tmps.getD 50 undef = y50 at ha
      generalize a.tmps.getD 51 undef = y51 at ha
      generalize a.tmps.getD 52 undef = y52 at ha
      have k8 := got 11 _ 8 rfl rfl
      simp only at k8
      generalize a.tmps.getD 8 undef = y8 at ha k8
      clear got same hsize hdef did
      subst ha
      simp only [List.setIfInBounds_toArray, List.set_cons_zero, List.set_cons_succ]
      go_wp2
      go_ret
      exact ⟨_, rfl, by
        have h10 : blobL o true srs s b = L0 ++ L1 ++ L2 := by rw [← HL0E.out, ← HL2.out, ← HHD.out, ← HL1E.out]; unfold blobL; rw [HBN.out]; rfl
        rw [HBL.out, h10]
        exact RB.lower k8 HBw5.out.size, bthen HBw5.out hW⟩
end Go.Proofs.YtfknhpgelleenaaDoor.K
end
