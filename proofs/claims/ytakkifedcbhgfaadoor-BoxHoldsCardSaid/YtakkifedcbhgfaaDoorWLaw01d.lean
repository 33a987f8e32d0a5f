/- The law of layer 1 on what comes back. -/
import Derived.Test.YtakkifedcbhgfaaDoorBase
import Derived.Handy
import Derived.Test.YtakkifedcbhgfaaDoorWParse
import Derived.Test.YtakkifedcbhgfaaDoorWLaw01c
namespace Go.Proofs.YtakkifedcbhgfaaDoor.K
open Go Go.RowKit Go.Proofs.YtakkifedcbhgfaaDoorW.PrintWords Go.Proofs.YtakkifedcbhgfaaDoorW.PrintLast Go.Proofs.YtakkifedcbhgfaaDoorW.PrintMore
set_option linter.unusedVariables false
set_option linter.unusedSimpArgs false
open Go.Proofs.YtakkifedcbhgfaaDoor.MWide (bt W64 U192 addV subV addOk subOk cry sumO bor difO cmpV width)
open Go.Proofs.YtakkifedcbhgfaaDoor.MText (padD dec strip numOf parseOk parseV canon digs)
theorem eqU0 {n : Int} (h : n = 0) (w : World) : (binOp .eql 26 (.agg #[.int .u64 (MWide.w0 n), .int .u64 (MWide.w1 n), .int .u64 (MWide.w2 n)]) (.agg #[.int .u64 0, .int .u64 0, .int .u64 0])).run Tryd.prog w = .ok (.bool true) w := by
  subst h
  exact eqU26 0 w
theorem neU26 (a : Int) (w : World) : (binOp .neq 26 (.agg #[.int .u64 (MWide.w0 a), .int .u64 (MWide.w1 a), .int .u64 (MWide.w2 a)]) (.agg #[.int .u64 (MWide.w0 a), .int .u64 (MWide.w1 a), .int .u64 (MWide.w2 a)])).run Tryd.prog w = .ok (.bool false) w := by
  have := neq3 26 u26 (MWide.w0 a) (MWide.w1 a) (MWide.w2 a) (MWide.w0 a) (MWide.w1 a) (MWide.w2 a) w
  rw [this]; simp
set_option maxHeartbeats 2000000 in
set_option maxRecDepth 100000 in
theorem WideBack_calls {w : World} (cs : Array Value) (x : Int × Int × Int) (hK : (Kd.pair (Kd.int .u64) (Kd.pair (Kd.int .u64) (Kd.int .u64))).K w x cs.toList) (hq : (Lit.int .u64 x.1).wf = true ∧ (Lit.int .u64 x.2.1).wf = true ∧ (Lit.int .u64 x.2.2).wf = true)
    (ds : Array Value) (y : Int × Int × Int) (hK' : (Kd.pair (Kd.int .u64) (Kd.pair (Kd.int .u64) (Kd.int .u64))).K w y ds.toList) (hq' : (Lit.int .u64 y.1).wf = true ∧ (Lit.int .u64 y.2.1).wf = true ∧ (Lit.int .u64 y.2.2).wf = true)
    (es : Array Value) (p : Int × Int) (hK2 : (Kd.pair (Kd.int .u64) (Kd.int .u64)).K w p es.toList) (hq2 : (Lit.int .u64 p.1).wf = true ∧ (Lit.int .u64 p.2).wf = true) :
    Calls Tryd.prog 10 #[.agg cs, .agg ds, .agg es] w fun e w' => e = .returned (.bool true) ∧ Below w.heap.size w w' := by
  obtain ⟨a, ha, rfl⟩ := u_arg hK hq
  obtain ⟨b, hb, rfl⟩ := u_arg hK' hq'
  obtain rfl := pair_cells hK2
  obtain ⟨n, m⟩ := p
  simp only at hq2 hK2 ⊢
  have hn := wf_u64 hq2.1
  have hm := wf_u64 hq2.2
  clear hK hq hK' hq' hK2 hq2
  have HA := Lib.hid (fun w => Add_calls a b w ha hb)
  have HT := Lib.hid (fun w => Text_calls a w ha)
  have hds : ∀ c ∈ dec a, 0 ≤ c ∧ c < 256 := fun c hc => by
    have := MText.dec_digs ha.1 (Int.lt_trans ha.2 MText.top58) c hc
    omega
  have hlen := MText.dec_length ha.1 (Int.lt_trans ha.2 MText.top58)
  have HP := Lib.hid (fun w => Parse_calls (strOfNums (dec a)) w (by rw [strOfNums_size]; omega))
  obtain ⟨hp1, hp2⟩ := MText.parse_dec ha
  rw [bytes_str hds, hp1, hp2] at HP
  obtain ⟨S, hS⟩ : ∃ S, strOfNums (dec a) = S := ⟨_, rfl⟩
  rw [hS] at HT HP
  have HL := Lib.hid lives01
  have HM := Lib.hid (fun w => Times_calls n m hn hm w)
  have HM2 := Lib.hid (fun w => Times_calls m n hm hn w)
  rw [Int.mul_comm m n] at HM2
  have HOn := Lib.hid (fun w => Of_calls n hn w)
  have HOm := Lib.hid (fun w => Of_calls m hm w)
  have HBn := Lib.hid (fun w => Bits_calls n w (MWide.u64_u hn))
  have HBm := Lib.hid (fun w => Bits_calls m w (MWide.u64_u hm))
  have HBp := Lib.hid (fun w => Bits_calls (n * m) w (MWide.u_mul hn hm))
  have wn := width_64 hn
  have wm := width_64 hm
  have wk : 0 < n → 0 < m → width n + width m - width (n * m) = 0 ∨ width n + width m - width (n * m) = 1 := fun h1 h2 => MWide.width_mul h1 h2
  have hn0 := hn.1
  have hm0 := hm.1
  have q1 := neU26 a
  have HWK := Lib.hid wk
  have q2 := eqU26 (n * m)
  clear hn hm hds hlen hp1 hp2 hS wk
  by_cases hov : addOk a b = true
  · have hsum : addV a b = a + b := by unfold addV; rw [if_pos hov]
    have hsu : U192 (a + b) := by rw [← hsum]; exact MWide.addV_u ha hb
    have hb0 := hb.1
    have hsk : subOk (a + b) b = true := by unfold subOk; exact decide_eq_true (by have := ha.1; omega)
    have hsv : subV (a + b) b = a := by unfold subV; rw [if_pos hsk]; omega
    have HS := Lib.hid (fun w => Sub_calls (a + b) b w hsu hb)
    have HC := Lib.hid (fun w => Cmp_calls (a + b) a w hsu ha)
    have hcv : 0 ≤ cmpV (a + b) a := by unfold cmpV; rw [if_neg (by omega)]; split <;> omega
    rw [hsk, hsv] at HS
    rw [hov, hsum] at HA
    obtain ⟨s, hs⟩ : ∃ s, a + b = s := ⟨_, rfl⟩
    obtain ⟨cv, hcv1⟩ : ∃ s, cmpV (a + b) a = s := ⟨_, rfl⟩
    rw [hcv1] at HC hcv
    rw [hs] at HA HS HC
    clear ha hb hb0 hov hsum hsu hsk hsv hs hcv1
    have A0 := ((Blk.new w #[.int .u64 (MWide.w0 a), .int .u64 (MWide.w1 a), .int .u64 (MWide.w2 a)] 26).alloc (.cells #[.int .u64 (MWide.w0 b), .int .u64 (MWide.w1 b), .int .u64 (MWide.w2 b)] 26)).alloc (.cells #[.int .u64 n, .int .u64 m] 23)
    have B0 := (Blk.new_at (W := w.alloc (.cells #[.int .u64 (MWide.w0 a), .int .u64 (MWide.w1 a), .int .u64 (MWide.w2 a)] 26)) (g := w.heap.size + 1) (by simp) #[.int .u64 (MWide.w0 b), .int .u64 (MWide.w1 b), .int .u64 (MWide.w2 b)] 26).alloc (.cells #[.int .u64 n, .int .u64 m] 23)
    have P0 := Blk.new_at (W := (w.alloc (.cells #[.int .u64 (MWide.w0 a), .int .u64 (MWide.w1 a), .int .u64 (MWide.w2 a)] 26)).alloc (.cells #[.int .u64 (MWide.w0 b), .int .u64 (MWide.w1 b), .int .u64 (MWide.w2 b)] 26)) (g := w.heap.size + 1 + 1) (by simp) #[.int .u64 n, .int .u64 m] 23
    have HB0 : Hid (Below w.heap.size w (((w.alloc (.cells #[.int .u64 (MWide.w0 a), .int .u64 (MWide.w1 a), .int .u64 (MWide.w2 a)] 26)).alloc (.cells #[.int .u64 (MWide.w0 b), .int .u64 (MWide.w1 b), .int .u64 (MWide.w2 b)] 26)).alloc (.cells #[.int .u64 n, .int .u64 m] 23))) := Lib.hid (by repeat (first | exact Below.refl _ _ | refine Below.drew ?_ | refine Below.alloc ?_ (by simp <;> omega) _))
    go_enter Tryd.func10, Tryd.ntmps10
    go_wp2_with fail
    refine (HA.out _).mono ?_
    rintro e w1 ⟨rfl, hb1⟩
    have A1 := A0.bel hb1
    have B1 := B0.bel hb1
    have P1 := P0.bel hb1
    have HB1 := Lib.hid (bthen HB0.out hb1)
    clear A0 B0 P0 HB0 hb1
    go_upto_region 3 with (fail)
    have S1 := Blk.new w1 #[.int .u64 (MWide.w0 s), .int .u64 (MWide.w1 s), .int .u64 (MWide.w2 s)] 26
    have A2 := A1.alloc (.cells #[.int .u64 (MWide.w0 s), .int .u64 (MWide.w1 s), .int .u64 (MWide.w2 s)] 26)
    have B2 := B1.alloc (.cells #[.int .u64 (MWide.w0 s), .int .u64 (MWide.w1 s), .int .u64 (MWide.w2 s)] 26)
    have P2 := P1.alloc (.cells #[.int .u64 (MWide.w0 s), .int .u64 (MWide.w1 s), .int .u64 (MWide.w2 s)] 26)
    have HB2 := Lib.hid (HB1.out.alloc HB1.out.size (.cells #[.int .u64 (MWide.w0 s), .int .u64 (MWide.w1 s), .int .u64 (MWide.w2 s)] 26))
    clear A1 B1 P1 HB1
    obtain ⟨W, hW⟩ : ∃ W, w1.alloc (.cells #[.int .u64 (MWide.w0 s), .int .u64 (MWide.w1 s), .int .u64 (MWide.w2 s)] 26) = W := ⟨_, rfl⟩
    rw [hW] at A2 B2 P2 HB2 S1 ⊢
    clear hW
    obtain ⟨a0, a1, a2⟩ := A2.cells3
    obtain ⟨b0, b1, b2⟩ := B2.cells3
    obtain ⟨s0, s1, s2⟩ := S1.cells3
    go_wp2_with fail
    refine (HS.out _).mono ?_
    rintro e w2 ⟨rfl, hb2⟩
    have S2 := S1.bel hb2
    have A3 := A2.bel hb2
    have B3 := B2.bel hb2
    have P3 := P2.bel hb2
    have HB3 := Lib.hid (bthen HB2.out hb2)
    clear A2 B2 P2 HB2 hb2
    clear a0 a1 a2 b0 b1 b2 s0 s1 s2
    go_upto_region 4 with (fail)
    have D1 := Blk.new w2 #[.int .u64 (MWide.w0 a), .int .u64 (MWide.w1 a), .int .u64 (MWide.w2 a)] 26
    have S3 := S2.alloc (.cells #[.int .u64 (MWide.w0 a), .int .u64 (MWide.w1 a), .int .u64 (MWide.w2 a)] 26)
    have A4 := A3.alloc (.cells #[.int .u64 (MWide.w0 a), .int .u64 (MWide.w1 a), .int .u64 (MWide.w2 a)] 26)
    have B4 := B3.alloc (.cells #[.int .u64 (MWide.w0 a), .int .u64 (MWide.w1 a), .int .u64 (MWide.w2 a)] 26)
    have P4 := P3.alloc (.cells #[.int .u64 (MWide.w0 a), .int .u64 (MWide.w1 a), .int .u64 (MWide.w2 a)] 26)
    have HB4 := Lib.hid (HB3.out.alloc HB3.out.size (.cells #[.int .u64 (MWide.w0 a), .int .u64 (MWide.w1 a), .int .u64 (MWide.w2 a)] 26))
    clear A3 B3 P3 HB3
    obtain ⟨W', hW⟩ : ∃ W, w2.alloc (.cells #[.int .u64 (MWide.w0 a), .int .u64 (MWide.w1 a), .int .u64 (MWide.w2 a)] 26) = W := ⟨_, rfl⟩
    rw [hW] at A4 B4 P4 HB4 S3 D1 ⊢
    clear hW S1 S2
    obtain ⟨a0, a1, a2⟩ := A4.cells3
    obtain ⟨s0, s1, s2⟩ := S3.cells3
    obtain ⟨d0, d1, d2⟩ := D1.cells3
    go_wp2_with fail
    refine (HC.out _).mono ?_
    rintro e w3 ⟨rfl, hb3⟩
    have A5 := A4.bel hb3
    have B5 := B4.bel hb3
    have P5 := P4.bel hb3
    have HB5 := Lib.hid (bthen HB4.out hb3)
    clear A4 B4 P4 HB4 hb3
    clear a0 a1 a2 s0 s1 s2 d0 d1 d2
    obtain ⟨a0, a1, a2⟩ := A5.cells3
    go_upto_region 6 with (fail)
    go_wp2_with fail
    refine (HT.out _).mono ?_
    rintro e v1 ⟨rfl, hv1⟩
    have A6 := A5.bel hv1
    have B6 := B5.bel hv1
    have P6 := P5.bel hv1
    have HB6 := Lib.hid (bthen HB5.out hv1)
    clear A5 B5 P5 HB5 hv1
    go_wp2_with fail
    refine (HP.out _).mono ?_
    rintro e v2 ⟨rfl, hv2⟩
    have A7 := A6.bel hv2
    have B7 := B6.bel hv2
    have P7 := P6.bel hv2
    have HB7 := Lib.hid (bthen HB6.out hv2)
    clear A6 B6 P6 HB6 hv2
    clear a0 a1 a2
    go_upto_region 7 with (fail)
    have X1 := Blk.new v2 #[.int .u64 (MWide.w0 a), .int .u64 (MWide.w1 a), .int .u64 (MWide.w2 a)] 26
    have A8 := A7.alloc (.cells #[.int .u64 (MWide.w0 a), .int .u64 (MWide.w1 a), .int .u64 (MWide.w2 a)] 26)
    have B8 := B7.alloc (.cells #[.int .u64 (MWide.w0 a), .int .u64 (MWide.w1 a), .int .u64 (MWide.w2 a)] 26)
    have P8 := P7.alloc (.cells #[.int .u64 (MWide.w0 a), .int .u64 (MWide.w1 a), .int .u64 (MWide.w2 a)] 26)
    have HB8 := Lib.hid (HB7.out.alloc HB7.out.size (.cells #[.int .u64 (MWide.w0 a), .int .u64 (MWide.w1 a), .int .u64 (MWide.w2 a)] 26))
    clear A7 B7 P7 HB7
    obtain ⟨V, hV⟩ : ∃ W, v2.alloc (.cells #[.int .u64 (MWide.w0 a), .int .u64 (MWide.w1 a), .int .u64 (MWide.w2 a)] 26) = W := ⟨_, rfl⟩
    rw [hV] at A8 B8 P8 HB8 X1 ⊢
    clear hV
    obtain ⟨a0, a1, a2⟩ := A8.cells3
    obtain ⟨x0, x1, x2⟩ := X1.cells3
    have p0 := P8.cell 0 rfl
    have p1 := P8.cell 1 rfl
    go_upto_region 9 with (fail)
    go_region
    have HBx := Lib.hid (Below.drew HB8.out)
    clear a0 a1 a2 x0 x1 x2 p0 p1 A8 B8 P8 X1 HB8
    by_cases hz : n = 0
    · have e0 := eqU0 (n := n * m) (by rw [hz, Int.zero_mul])
      have b1 : (n == 0) = true := by rw [hz]; rfl
      clear hz q2
      go_wp2_with fail
      refine (HM.out _).mono ?_
      rintro e y1 ⟨rfl, hy1⟩
      have HY1 := Lib.hid (bthen HBx.out hy1)
      clear hy1
      go_wp2_with (go_at_call 19; refine (HL.out _).mono ?_; rintro e y2 ⟨rfl, hy2⟩; have HY2 := Lib.hid (bthen HY1.out hy2); clear hy2)
      go_ret
      exact ⟨rfl, HY2.out⟩
    · have b1 : (n == 0) = false := by rw [beq_eq_false_iff_ne]; exact hz
      by_cases hz2 : m = 0
      · have e0 := eqU0 (n := n * m) (by rw [hz2, Int.mul_zero])
        have b2 : (m == 0) = true := by rw [hz2]; rfl
        clear hz hz2 q2
        go_wp2_with fail
        refine (HM.out _).mono ?_
        rintro e y1 ⟨rfl, hy1⟩
        have HY1 := Lib.hid (bthen HBx.out hy1)
        clear hy1
        go_wp2_with (go_at_call 19; refine (HL.out _).mono ?_; rintro e y2 ⟨rfl, hy2⟩; have HY2 := Lib.hid (bthen HY1.out hy2); clear hy2)
        go_ret
        exact ⟨rfl, HY2.out⟩
      · have b2 : (m == 0) = false := by rw [beq_eq_false_iff_ne]; exact hz2
        have hwk := HWK.out (by omega) (by omega)
        obtain ⟨k, hk⟩ : ∃ k, width n + width m - width (n * m) = k := ⟨_, rfl⟩
        rw [hk] at hwk
        have hw0 : 0 ≤ width (n * m) := by unfold width; split <;> omega
        have hkk : 0 ≤ width (n * m) ∧ width (n * m) ≤ 128 := by omega
        obtain ⟨wp, hwp⟩ : ∃ k, width (n * m) = k := ⟨_, rfl⟩
        rw [hwp] at hk hkk HBp
        have HK := Lib.hid hk
        clear hk hwp hz hz2
        go_wp2_with fail
        refine (HOn.out _).mono ?_
        rintro e y1 ⟨rfl, hy1⟩
        go_wp2_with fail
        refine (HBn.out _).mono ?_
        rintro e y2 ⟨rfl, hy2⟩
        go_wp2_with fail
        refine (HOm.out _).mono ?_
        rintro e y3 ⟨rfl, hy3⟩
        go_wp2_with fail
        refine (HBm.out _).mono ?_
        rintro e y4 ⟨rfl, hy4⟩
        go_wp2_with fail
        refine (HM.out _).mono ?_
        rintro e y5 ⟨rfl, hy5⟩
        go_wp2_with fail
        refine (HBp.out _).mono ?_
        rintro e y6 ⟨rfl, hy6⟩
        have HY6 := Lib.hid (bthen (bthen (bthen (bthen (bthen (bthen HBx.out hy1) hy2) hy3) hy4) hy5) hy6)
        clear hy1 hy2 hy3 hy4 hy5 hy6
        rcases hwk with hk0 | hk1
        · have b3 : (width n + width m - wp == 0) = true := by rw [HK.out, hk0]; rfl
          clear hk0
          go_wp2_with fail
          refine (HM.out _).mono ?_
          rintro e y7 ⟨rfl, hy7⟩
          go_wp2_with fail
          refine (HM2.out _).mono ?_
          rintro e y8 ⟨rfl, hy8⟩
          go_wp2_with fail
          refine (HL.out _).mono ?_
          rintro e y9 ⟨rfl, hy9⟩
          have HY9 := Lib.hid (bthen (bthen (bthen HY6.out hy7) hy8) hy9)
          clear hy7 hy8 hy9
          go_wp2_with fail
          go_ret
          exact ⟨rfl, HY9.out⟩
        · have b3 : (width n + width m - wp == 0) = false := by rw [HK.out, hk1]; rfl
          have b4 : (width n + width m - wp == 1) = true := by rw [HK.out, hk1]; rfl
          clear hk1
          go_wp2_with fail
          refine (HM.out _).mono ?_
          rintro e y7 ⟨rfl, hy7⟩
          go_wp2_with fail
          refine (HM2.out _).mono ?_
          rintro e y8 ⟨rfl, hy8⟩
          go_wp2_with fail
          refine (HL.out _).mono ?_
          rintro e y9 ⟨rfl, hy9⟩
          have HY9 := Lib.hid (bthen (bthen (bthen HY6.out hy7) hy8) hy9)
          clear hy7 hy8 hy9
          go_wp2_with fail
          go_ret
          exact ⟨rfl, HY9.out⟩
  · have hov2 : addOk a b = false := by simpa using hov
    have hsum : addV a b = 0 := by unfold addV; rw [if_neg hov]
    rw [hov2, hsum] at HA
    clear ha hb hov hov2 hsum
    have A0 := ((Blk.new w #[.int .u64 (MWide.w0 a), .int .u64 (MWide.w1 a), .int .u64 (MWide.w2 a)] 26).alloc (.cells #[.int .u64 (MWide.w0 b), .int .u64 (MWide.w1 b), .int .u64 (MWide.w2 b)] 26)).alloc (.cells #[.int .u64 n, .int .u64 m] 23)
    have B0 := (Blk.new_at (W := w.alloc (.cells #[.int .u64 (MWide.w0 a), .int .u64 (MWide.w1 a), .int .u64 (MWide.w2 a)] 26)) (g := w.heap.size + 1) (by simp) #[.int .u64 (MWide.w0 b), .int .u64 (MWide.w1 b), .int .u64 (MWide.w2 b)] 26).alloc (.cells #[.int .u64 n, .int .u64 m] 23)
    have P0 := Blk.new_at (W := (w.alloc (.cells #[.int .u64 (MWide.w0 a), .int .u64 (MWide.w1 a), .int .u64 (MWide.w2 a)] 26)).alloc (.cells #[.int .u64 (MWide.w0 b), .int .u64 (MWide.w1 b), .int .u64 (MWide.w2 b)] 26)) (g := w.heap.size + 1 + 1) (by simp) #[.int .u64 n, .int .u64 m] 23
    have HB0 : Hid (Below w.heap.size w (((w.alloc (.cells #[.int .u64 (MWide.w0 a), .int .u64 (MWide.w1 a), .int .u64 (MWide.w2 a)] 26)).alloc (.cells #[.int .u64 (MWide.w0 b), .int .u64 (MWide.w1 b), .int .u64 (MWide.w2 b)] 26)).alloc (.cells #[.int .u64 n, .int .u64 m] 23))) := Lib.hid (by repeat (first | exact Below.refl _ _ | refine Below.drew ?_ | refine Below.alloc ?_ (by simp <;> omega) _))
    go_enter Tryd.func10, Tryd.ntmps10
    go_wp2_with fail
    refine (HA.out _).mono ?_
    rintro e w1 ⟨rfl, hb1⟩
    have A1 := A0.bel hb1
    have B1 := B0.bel hb1
    have P1 := P0.bel hb1
    have HB1 := Lib.hid (bthen HB0.out hb1)
    clear A0 B0 P0 HB0 hb1
    go_upto_region 6 with (fail)
    have A2 := A1.alloc (.cells #[.int .u64 (MWide.w0 0), .int .u64 (MWide.w1 0), .int .u64 (MWide.w2 0)] 26)
    have B2 := B1.alloc (.cells #[.int .u64 (MWide.w0 0), .int .u64 (MWide.w1 0), .int .u64 (MWide.w2 0)] 26)
    have P2 := P1.alloc (.cells #[.int .u64 (MWide.w0 0), .int .u64 (MWide.w1 0), .int .u64 (MWide.w2 0)] 26)
    have HB2 := Lib.hid (HB1.out.alloc HB1.out.size (.cells #[.int .u64 (MWide.w0 0), .int .u64 (MWide.w1 0), .int .u64 (MWide.w2 0)] 26))
    obtain ⟨W, hW⟩ : ∃ W, w1.alloc (.cells #[.int .u64 (MWide.w0 0), .int .u64 (MWide.w1 0), .int .u64 (MWide.w2 0)] 26) = W := ⟨_, rfl⟩
    rw [hW] at A2 B2 P2 HB2 ⊢
    clear hW A1 B1 P1 HB1
    obtain ⟨a0, a1, a2⟩ := A2.cells3
    go_wp2_with fail
    refine (HT.out _).mono ?_
    rintro e v1 ⟨rfl, hv1⟩
    have A3 := A2.bel hv1
    have B3 := B2.bel hv1
    have P3 := P2.bel hv1
    have HB3 := Lib.hid (bthen HB2.out hv1)
    clear A2 B2 P2 HB2 hv1
    go_wp2_with fail
    refine (HP.out _).mono ?_
    rintro e v2 ⟨rfl, hv2⟩
    have A4 := A3.bel hv2
    have B4 := B3.bel hv2
    have P4 := P3.bel hv2
    have HB4 := Lib.hid (bthen HB3.out hv2)
    clear A3 B3 P3 HB3 hv2
    clear a0 a1 a2
    go_upto_region 7 with (fail)
    have X1 := Blk.new v2 #[.int .u64 (MWide.w0 a), .int .u64 (MWide.w1 a), .int .u64 (MWide.w2 a)] 26
    have A5 := A4.alloc (.cells #[.int .u64 (MWide.w0 a), .int .u64 (MWide.w1 a), .int .u64 (MWide.w2 a)] 26)
    have B5 := B4.alloc (.cells #[.int .u64 (MWide.w0 a), .int .u64 (MWide.w1 a), .int .u64 (MWide.w2 a)] 26)
    have P5 := P4.alloc (.cells #[.int .u64 (MWide.w0 a), .int .u64 (MWide.w1 a), .int .u64 (MWide.w2 a)] 26)
    have HB5 := Lib.hid (HB4.out.alloc HB4.out.size (.cells #[.int .u64 (MWide.w0 a), .int .u64 (MWide.w1 a), .int .u64 (MWide.w2 a)] 26))
    clear A4 B4 P4 HB4
    obtain ⟨V, hV⟩ : ∃ W, v2.alloc (.cells #[.int .u64 (MWide.w0 a), .int .u64 (MWide.w1 a), .int .u64 (MWide.w2 a)] 26) = W := ⟨_, rfl⟩
    rw [hV] at A5 B5 P5 HB5 X1 ⊢
    clear hV
    obtain ⟨a0, a1, a2⟩ := A5.cells3
    obtain ⟨x0, x1, x2⟩ := X1.cells3
    have p0 := P5.cell 0 rfl
    have p1 := P5.cell 1 rfl
    go_upto_region 9 with (fail)
    go_region
    have HBx := Lib.hid (Below.drew HB5.out)
    clear a0 a1 a2 x0 x1 x2 p0 p1 A5 B5 P5 X1 HB5
    by_cases hz : n = 0
    · have e0 := eqU0 (n := n * m) (by rw [hz, Int.zero_mul])
      have b1 : (n == 0) = true := by rw [hz]; rfl
      clear hz q2
      go_wp2_with fail
      refine (HM.out _).mono ?_
      rintro e y1 ⟨rfl, hy1⟩
      have HY1 := Lib.hid (bthen HBx.out hy1)
      clear hy1
      go_wp2_with (go_at_call 19; refine (HL.out _).mono ?_; rintro e y2 ⟨rfl, hy2⟩; have HY2 := Lib.hid (bthen HY1.out hy2); clear hy2)
      go_ret
      exact ⟨rfl, HY2.out⟩
    · have b1 : (n == 0) = false := by rw [beq_eq_false_iff_ne]; exact hz
      by_cases hz2 : m = 0
      · have e0 := eqU0 (n := n * m) (by rw [hz2, Int.mul_zero])
        have b2 : (m == 0) = true := by rw [hz2]; rfl
        clear hz hz2 q2
        go_wp2_with fail
        refine (HM.out _).mono ?_
        rintro e y1 ⟨rfl, hy1⟩
        have HY1 := Lib.hid (bthen HBx.out hy1)
        clear hy1
        go_wp2_with (go_at_call 19; refine (HL.out _).mono ?_; rintro e y2 ⟨rfl, hy2⟩; have HY2 := Lib.hid (bthen HY1.out hy2); clear hy2)
        go_ret
        exact ⟨rfl, HY2.out⟩
      · have b2 : (m == 0) = false := by rw [beq_eq_false_iff_ne]; exact hz2
        have hwk := HWK.out (by omega) (by omega)
        obtain ⟨k, hk⟩ : ∃ k, width n + width m - width (n * m) = k := ⟨_, rfl⟩
        rw [hk] at hwk
        have hw0 : 0 ≤ width (n * m) := by unfold width; split <;> omega
        have hkk : 0 ≤ width (n * m) ∧ width (n * m) ≤ 128 := by omega
        obtain ⟨wp, hwp⟩ : ∃ k, width (n * m) = k := ⟨_, rfl⟩
        rw [hwp] at hk hkk HBp
        have HK := Lib.hid hk
        clear hk hwp hz hz2
        go_wp2_with fail
        refine (HOn.out _).mono ?_
        rintro e y1 ⟨rfl, hy1⟩
        go_wp2_with fail
        refine (HBn.out _).mono ?_
        rintro e y2 ⟨rfl, hy2⟩
        go_wp2_with fail
        refine (HOm.out _).mono ?_
        rintro e y3 ⟨rfl, hy3⟩
        go_wp2_with fail
        refine (HBm.out _).mono ?_
        rintro e y4 ⟨rfl, hy4⟩
        go_wp2_with fail
        refine (HM.out _).mono ?_
        rintro e y5 ⟨rfl, hy5⟩
        go_wp2_with fail
        refine (HBp.out _).mono ?_
        rintro e y6 ⟨rfl, hy6⟩
        have HY6 := Lib.hid (bthen (bthen (bthen (bthen (bthen (bthen HBx.out hy1) hy2) hy3) hy4) hy5) hy6)
        clear hy1 hy2 hy3 hy4 hy5 hy6
        rcases hwk with hk0 | hk1
        · have b3 : (width n + width m - wp == 0) = true := by rw [HK.out, hk0]; rfl
          clear hk0
          go_wp2_with fail
          refine (HM.out _).mono ?_
          rintro e y7 ⟨rfl, hy7⟩
          go_wp2_with fail
          refine (HM2.out _).mono ?_
          rintro e y8 ⟨rfl, hy8⟩
          go_wp2_with fail
          refine (HL.out _).mono ?_
          rintro e y9 ⟨rfl, hy9⟩
          have HY9 := Lib.hid (bthen (bthen (bthen HY6.out hy7) hy8) hy9)
          clear hy7 hy8 hy9
          go_wp2_with fail
          go_ret
          exact ⟨rfl, HY9.out⟩
        · have b3 : (width n + width m - wp == 0) = false := by rw [HK.out, hk1]; rfl
          have b4 : (width n + width m - wp == 1) = true := by rw [HK.out, hk1]; rfl
          clear hk1
          go_wp2_with fail
          refine (HM.out _).mono ?_
          rintro e y7 ⟨rfl, hy7⟩
          go_wp2_with fail
          refine (HM2.out _).mono ?_
          rintro e y8 ⟨rfl, hy8⟩
          go_wp2_with fail
          refine (HL.out _).mono ?_
          rintro e y9 ⟨rfl, hy9⟩
          have HY9 := Lib.hid (bthen (bthen (bthen HY6.out hy7) hy8) hy9)
          clear hy7 hy8 hy9
          go_wp2_with fail
          go_ret
          exact ⟨rfl, HY9.out⟩

end Go.Proofs.YtakkifedcbhgfaaDoor.K
