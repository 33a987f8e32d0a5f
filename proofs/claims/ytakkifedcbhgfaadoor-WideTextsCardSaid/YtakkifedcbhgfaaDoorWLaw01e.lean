/- The law WideTexts. -/
import Derived.Test.YtakkifedcbhgfaaDoorBase
import Derived.Handy
import Derived.Test.YtakkifedcbhgfaaDoorWRParse
import Derived.Test.YtakkifedcbhgfaaDoorWLaw01c
import Derived.Test.YtakkifedcbhgfaaDoorWRText
namespace Go.Proofs.YtakkifedcbhgfaaDoor.K
open Go Go.RowKit Go.Proofs.YtakkifedcbhgfaaDoorW.PrintWords Go.Proofs.YtakkifedcbhgfaaDoorW.PrintLast Go.Proofs.YtakkifedcbhgfaaDoorW.PrintMore
set_option linter.unusedVariables false
set_option linter.unusedSimpArgs false
open Go.Proofs.YtakkifedcbhgfaaDoor.MWide (bt W64 U192 addV subV addOk subOk cry sumO bor difO cmpV width)
open Go.Proofs.YtakkifedcbhgfaaDoor.MText (padD dec strip numOf parseOk parseV canon digs)
theorem kc9 {wr w w' : World} {g0 g1 g2 : Nat} {v00 v01 v02 v10 v11 v12 v20 v21 v22 : Value} (hb : Bel w w') (hh : w.cell? ⟨g0, 0, none⟩ = some v00 ∧ w.cell? ⟨g0, 1, none⟩ = some v01 ∧ w.cell? ⟨g0, 2, none⟩ = some v02 ∧ w.cell? ⟨g1, 0, none⟩ = some v10 ∧ w.cell? ⟨g1, 1, none⟩ = some v11 ∧ w.cell? ⟨g1, 2, none⟩ = some v12 ∧ w.cell? ⟨g2, 0, none⟩ = some v20 ∧ w.cell? ⟨g2, 1, none⟩ = some v21 ∧ w.cell? ⟨g2, 2, none⟩ = some v22 ∧ Bel wr w) :
    w'.cell? ⟨g0, 0, none⟩ = some v00 ∧ w'.cell? ⟨g0, 1, none⟩ = some v01 ∧ w'.cell? ⟨g0, 2, none⟩ = some v02 ∧ w'.cell? ⟨g1, 0, none⟩ = some v10 ∧ w'.cell? ⟨g1, 1, none⟩ = some v11 ∧ w'.cell? ⟨g1, 2, none⟩ = some v12 ∧ w'.cell? ⟨g2, 0, none⟩ = some v20 ∧ w'.cell? ⟨g2, 1, none⟩ = some v21 ∧ w'.cell? ⟨g2, 2, none⟩ = some v22 ∧ Bel wr w' := by
  obtain ⟨h00, h01, h02, h10, h11, h12, h20, h21, h22, hz⟩ := hh
  exact ⟨kc hb h00, kc hb h01, kc hb h02, kc hb h10, kc hb h11, kc hb h12, kc hb h20, kc hb h21, kc hb h22, bthen hz hb⟩
set_option maxHeartbeats 2000000 in
set_option maxRecDepth 100000 in
theorem WideTexts_calls {w : World} (cs : Array Value) (x : Int × Int × Int) (hK : (Kd.pair (Kd.int .u64) (Kd.pair (Kd.int .u64) (Kd.int .u64))).K w x cs.toList) (hq : (Lit.int .u64 x.1).wf = true ∧ (Lit.int .u64 x.2.1).wf = true ∧ (Lit.int .u64 x.2.2).wf = true)
    (s : ByteArray) (hs : s.size ≤ maxLen) :
    Calls Tryd.prog 4 #[.agg cs, .string s] w fun e w' => e = .returned (.bool true) ∧ Below w.heap.size w w' := by
  obtain ⟨a, ha, rfl⟩ := u_arg hK hq
  clear hK hq
  have HT := Lib.hid (fun w => Text_calls a w ha)
  have HRT := Lib.hid (fun w => refText_calls a.toNat a w (Nat.le_refl _) ha)
  have HP := Lib.hid (fun w => Parse_calls s w hs)
  have HRP := Lib.hid (fun w => refParse_calls s w hs)
  have HL := Lib.hid lives01
  have HU := Lib.hid u_calls
  obtain ⟨S, hS⟩ : ∃ S, strOfNums (dec a) = S := ⟨_, rfl⟩
  obtain ⟨pv, hpv⟩ : ∃ S, parseV (bytesOf s) = S := ⟨_, rfl⟩
  obtain ⟨pk, hpk⟩ : ∃ S, parseOk (bytesOf s) = S := ⟨_, rfl⟩
  rw [hS] at HT HRT
  rw [hpv, hpk] at HP HRP
  have q1 := eqU24 pv
  have b1 : (pk == pk) = true := beq_self_eq_true _
  have b2 : (S.toList == S.toList) = true := beq_self_eq_true _
  clear ha hs hS hpv hpk
  go_enter Tryd.func4, Tryd.ntmps4
  have A0 := Blk.new w #[.int .u64 (MWide.w0 a), .int .u64 (MWide.w1 a), .int .u64 (MWide.w2 a)] 26
  have HB0 : Hid (Below w.heap.size w (w.alloc (.cells #[.int .u64 (MWide.w0 a), .int .u64 (MWide.w1 a), .int .u64 (MWide.w2 a)] 26))) := Lib.hid (by repeat (first | exact Below.refl _ _ | refine Below.drew ?_ | refine Below.alloc ?_ (by simp <;> omega) _))
  go_wp2_with fail
  refine (HP.out _).mono ?_
  rintro e w1 ⟨rfl, hb1⟩
  have A1 := A0.bel hb1
  have HB1 := Lib.hid (bthen HB0.out hb1)
  clear A0 HB0 hb1
  go_upto_region 2 with (fail)
  have X1 := Blk.new w1 #[.int .u64 (MWide.w0 pv), .int .u64 (MWide.w1 pv), .int .u64 (MWide.w2 pv)] 26
  have A2 := A1.alloc (.cells #[.int .u64 (MWide.w0 pv), .int .u64 (MWide.w1 pv), .int .u64 (MWide.w2 pv)] 26)
  have HB2 := Lib.hid (HB1.out.alloc HB1.out.size (.cells #[.int .u64 (MWide.w0 pv), .int .u64 (MWide.w1 pv), .int .u64 (MWide.w2 pv)] 26))
  obtain ⟨w2, hw2⟩ : ∃ x, w1.alloc (.cells #[.int .u64 (MWide.w0 pv), .int .u64 (MWide.w1 pv), .int .u64 (MWide.w2 pv)] 26) = x := ⟨_, rfl⟩
  rw [hw2] at X1 A2 HB2 ⊢
  obtain ⟨g1, hg1⟩ : ∃ g, w1.heap.size = g := ⟨_, rfl⟩
  rw [hg1] at X1 ⊢
  clear hw2 A1 HB1 hg1
  go_wp2_with fail
  refine (HRP.out _).mono ?_
  rintro e w3 ⟨rfl, hb3⟩
  have A3 := A2.bel hb3
  have X3 := X1.bel hb3
  have HB3 := Lib.hid (bthen HB2.out hb3)
  clear A2 X1 HB2 hb3
  go_upto_region 3 with (fail)
  have Y1 := Blk.new w3 #[.int .u64 (MWide.w0 pv), .int .u64 (MWide.w1 pv), .int .u64 (MWide.w2 pv)] 24
  have A4 := A3.alloc (.cells #[.int .u64 (MWide.w0 pv), .int .u64 (MWide.w1 pv), .int .u64 (MWide.w2 pv)] 24)
  have X4 := X3.alloc (.cells #[.int .u64 (MWide.w0 pv), .int .u64 (MWide.w1 pv), .int .u64 (MWide.w2 pv)] 24)
  have HB4 := Lib.hid (HB3.out.alloc HB3.out.size (.cells #[.int .u64 (MWide.w0 pv), .int .u64 (MWide.w1 pv), .int .u64 (MWide.w2 pv)] 24))
  obtain ⟨w4, hw4⟩ : ∃ x, w3.alloc (.cells #[.int .u64 (MWide.w0 pv), .int .u64 (MWide.w1 pv), .int .u64 (MWide.w2 pv)] 24) = x := ⟨_, rfl⟩
  rw [hw4] at Y1 A4 X4 HB4 ⊢
  obtain ⟨g2, hg2⟩ : ∃ g, w3.heap.size = g := ⟨_, rfl⟩
  rw [hg2] at Y1 ⊢
  clear hw4 A3 X3 HB3 hg2
  obtain ⟨a0, a1, a2⟩ := A4.cells3
  obtain ⟨x0, x1, x2⟩ := X4.cells3
  obtain ⟨y0, y1, y2⟩ := Y1.cells3
  have HBk := Lib.hid (Bel.refl w4)
  have hS0 := (And.intro a0 (And.intro a1 (And.intro a2 (And.intro x0 (And.intro x1 (And.intro x2 (And.intro y0 (And.intro y1 (And.intro y2 HBk.out)))))))))
  go_region_held3 (fun w' => w'.cell? ⟨w.heap.size, 0, none⟩ = some (.int .u64 (MWide.w0 a)) ∧ w'.cell? ⟨w.heap.size, 1, none⟩ = some (.int .u64 (MWide.w1 a)) ∧ w'.cell? ⟨w.heap.size, 2, none⟩ = some (.int .u64 (MWide.w2 a)) ∧ w'.cell? ⟨g1, 0, none⟩ = some (.int .u64 (MWide.w0 pv)) ∧ w'.cell? ⟨g1, 1, none⟩ = some (.int .u64 (MWide.w1 pv)) ∧ w'.cell? ⟨g1, 2, none⟩ = some (.int .u64 (MWide.w2 pv)) ∧ w'.cell? ⟨g2, 0, none⟩ = some (.int .u64 (MWide.w0 pv)) ∧ w'.cell? ⟨g2, 1, none⟩ = some (.int .u64 (MWide.w1 pv)) ∧ w'.cell? ⟨g2, 2, none⟩ = some (.int .u64 (MWide.w2 pv)) ∧ Bel w4 w') (first | with_reducible exact kc9 hb (by assumption) | with_reducible exact kc9 (Bel.drew _) hS0)
    (first
      | (go_at_call 13; refine (HU.out _ _).mono ?_; rintro e w' ⟨rfl, hb⟩)
      | (go_at_call 19; refine (HL.out _).mono ?_; rintro e w' ⟨rfl, hb⟩)
      | (go_at_call 22; refine (HT.out _).mono ?_; rintro e w' ⟨rfl, hb⟩)
      | (go_at_call 23; refine (HRT.out _).mono ?_; rintro e w' ⟨rfl, hb⟩))
  rename_i hheld
  obtain ⟨-, -, -, -, -, -, -, -, -, hend⟩ := hheld
  have HBf := Lib.hid (bthen HB4.out hend)
  clear hend hS0
  go_wp2
  go_ret
  exact ⟨rfl, HBf.out⟩

end Go.Proofs.YtakkifedcbhgfaaDoor.K
