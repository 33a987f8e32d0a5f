/- The law BoxBytes. -/
import Derived.Test.YtakkifedcbhgfaaDoorKB
import Derived.Handy
import Derived.Test.YtakkifedcbhgfaaDoorKX4
import Derived.Test.YtakkifedcbhgfaaDoorKM
namespace Go.Proofs.YtakkifedcbhgfaaDoor.K
open Go Go.RowKit Go.Proofs.YtakkifedcbhgfaaDoorW.PrintWords Go.Proofs.YtakkifedcbhgfaaDoorW.PrintLast Go.Proofs.YtakkifedcbhgfaaDoorW.PrintMore
set_option linter.unusedVariables false
set_option linter.unusedSimpArgs false
open Go.Proofs.YtakkifedcbhgfaaDoor.MOct (putL getV)
open Go.Proofs.YtakkifedcbhgfaaDoor.MBox (I64)
theorem wrap64_u64 {n : Int} (h : I64 n) : wrap64 (MOct.u64 n) = n := by
  unfold I64 at h
  have e : wrap64 (MOct.u64 n) = (MOct.u64 n + 9223372036854775808) % 18446744073709551616 - 9223372036854775808 := by first | rfl | simp [wrap64]
  rw [e]; unfold MOct.u64; omega
theorem nthI_put (n : Int) (h : I64 n) (rest : List Int) : wrap64 (getV (put8 n ++ rest) 8 false).1 = n := by
  unfold put8
  rw [MOct.getV_put _ _ _ (u64_lt n).1 (u64_lt n).2]
  exact wrap64_u64 h
theorem bytesV_len {b : MBox.Bx} (hb : MBox.has b = true) : (bytesV b).length = 32 := by unfold bytesV; rw [if_pos hb]; simp [put8_len]
theorem bytesV_ok (b : MBox.Bx) : bytesOk (bytesV b) := by
  have h : ∀ n, bytesOk (put8 n) := fun n x hx => MOct.putL_range _ _ _ x hx
  unfold bytesV
  split
  · exact bytesOk_append (bytesOk_append (bytesOk_append (h _) (h _)) (h _)) (h _)
  · exact bytesOk_nil
theorem parseV_bytes {b : MBox.Bx} (hk : b.ok) (hb : MBox.has b = true) : parseV (bytesV b) = (b, 0) := by
  have hl := bytesV_len hb
  have hh := (MBox.has_iff b).1 hb
  have e : bytesV b = put8 b.lx ++ (put8 b.hx ++ (put8 b.ly ++ put8 b.hy)) := by unfold bytesV; rw [if_pos hb]; simp [List.append_assoc]
  have l1 := put8_len b.lx; have l2 := put8_len b.hx; have l3 := put8_len b.ly
  have d1 : (bytesV b).drop 8 = put8 b.hx ++ (put8 b.ly ++ put8 b.hy) := by rw [e, List.drop_append_of_le_length (by omega), List.drop_of_length_le (by omega), List.nil_append]
  have d2 : (bytesV b).drop 16 = put8 b.ly ++ put8 b.hy := by rw [show 16 = 8 + 8 from rfl, ← List.drop_drop, d1, List.drop_append_of_le_length (by omega), List.drop_of_length_le (by omega), List.nil_append]
  have d3 : (bytesV b).drop 24 = put8 b.hy ++ [] := by rw [show 24 = 16 + 8 from rfl, ← List.drop_drop, d2, List.drop_append_of_le_length (by omega), List.drop_of_length_le (by omega), List.nil_append, List.append_nil]
  have n0 : nthI (bytesV b) 0 = b.lx := by unfold nthI; rw [show 8 * 0 = 0 from rfl, List.drop_zero, e]; exact nthI_put _ hk.1 _
  have n1 : nthI (bytesV b) 1 = b.hx := by unfold nthI; rw [show 8 * 1 = 8 from rfl, d1]; exact nthI_put _ hk.2.2.1 _
  have n2 : nthI (bytesV b) 2 = b.ly := by unfold nthI; rw [show 8 * 2 = 16 from rfl, d2]; exact nthI_put _ hk.2.1 _
  have n3 : nthI (bytesV b) 3 = b.hy := by unfold nthI; rw [show 8 * 3 = 24 from rfl, d3]; exact nthI_put _ hk.2.2.2 _
  have eb : boxAt (bytesV b) = b := by unfold boxAt; rw [n0, n1, n2, n3]; exact MBox.Bx.ext' hh.1.symm rfl rfl rfl rfl
  have hg : MBox.good b = true := by unfold MBox.good; rw [if_neg (by simp [hh.1])]; simp [hh.2.1, hh.2.2]
  unfold parseV
  rw [if_neg (by omega), if_neg (by omega), eb, if_pos hg]
set_option maxRecDepth 100000 in
theorem neqB (a b : MBox.Bx) (w : World) : (binOp .neq 52 (.agg #[.bool a.no, .int .i64 a.lx, .int .i64 a.ly, .int .i64 a.hx, .int .i64 a.hy]) (.agg #[.bool b.no, .int .i64 b.lx, .int .i64 b.ly, .int .i64 b.hx, .int .i64 b.hy])).run Tryd.prog w = .ok (.bool (!MBox.same a b)) w := by
  unfold binOp
  simp only [Sem.run_bind, Op.equal, Op.maxDepth, eqB_in 9997, Result.andThen_ok, Sem.run_pure]
theorem kbs {w0 wr w w' : World} {g p q cy : Nat} {b a : MBox.Bx} {Ay : Option Addr} {ly : List Int} {s : ByteArray} (hr : Hid (RB w0 wr (.slice Ay ly.length cy) ly)) (hs : Hid (s = strOfNums ly)) (hb : Bel w w') (hh : (convert 75 9 (.slice Ay ly.length cy)).run Tryd.prog w = .ok (.string s) w ∧ w.cell? ⟨g, 0, none⟩ = some (.bool b.no) ∧ w.cell? ⟨g, 1, none⟩ = some (.int .i64 b.lx) ∧ w.cell? ⟨g, 2, none⟩ = some (.int .i64 b.ly) ∧ w.cell? ⟨g, 3, none⟩ = some (.int .i64 b.hx) ∧ w.cell? ⟨g, 4, none⟩ = some (.int .i64 b.hy) ∧ w.cell? ⟨p, 0, none⟩ = some (.bool a.no) ∧ w.cell? ⟨p, 1, none⟩ = some (.int .i64 a.lx) ∧ w.cell? ⟨p, 2, none⟩ = some (.int .i64 a.ly) ∧ w.cell? ⟨p, 3, none⟩ = some (.int .i64 a.hx) ∧ w.cell? ⟨p, 4, none⟩ = some (.int .i64 a.hy) ∧ w.cell? ⟨q, 0, none⟩ = some (.bool a.no) ∧ w.cell? ⟨q, 1, none⟩ = some (.int .i64 a.lx) ∧ w.cell? ⟨q, 2, none⟩ = some (.int .i64 a.ly) ∧ w.cell? ⟨q, 3, none⟩ = some (.int .i64 a.hx) ∧ w.cell? ⟨q, 4, none⟩ = some (.int .i64 a.hy) ∧ Bel wr w) :
    (convert 75 9 (.slice Ay ly.length cy)).run Tryd.prog w' = .ok (.string s) w' ∧ w'.cell? ⟨g, 0, none⟩ = some (.bool b.no) ∧ w'.cell? ⟨g, 1, none⟩ = some (.int .i64 b.lx) ∧ w'.cell? ⟨g, 2, none⟩ = some (.int .i64 b.ly) ∧ w'.cell? ⟨g, 3, none⟩ = some (.int .i64 b.hx) ∧ w'.cell? ⟨g, 4, none⟩ = some (.int .i64 b.hy) ∧ w'.cell? ⟨p, 0, none⟩ = some (.bool a.no) ∧ w'.cell? ⟨p, 1, none⟩ = some (.int .i64 a.lx) ∧ w'.cell? ⟨p, 2, none⟩ = some (.int .i64 a.ly) ∧ w'.cell? ⟨p, 3, none⟩ = some (.int .i64 a.hx) ∧ w'.cell? ⟨p, 4, none⟩ = some (.int .i64 a.hy) ∧ w'.cell? ⟨q, 0, none⟩ = some (.bool a.no) ∧ w'.cell? ⟨q, 1, none⟩ = some (.int .i64 a.lx) ∧ w'.cell? ⟨q, 2, none⟩ = some (.int .i64 a.ly) ∧ w'.cell? ⟨q, 3, none⟩ = some (.int .i64 a.hx) ∧ w'.cell? ⟨q, 4, none⟩ = some (.int .i64 a.hy) ∧ Bel wr w' := by
  obtain ⟨-, h0, h1, h2, h3, h4, i0, i1, i2, i3, i4, j0, j1, j2, j3, j4, hz⟩ := hh
  have hz' := bthen hz hb
  exact ⟨by rw [hs.out]; exact (hr.out.below hz').str, kc hb h0, kc hb h1, kc hb h2, kc hb h3, kc hb h4, kc hb i0, kc hb i1, kc hb i2, kc hb i3, kc hb i4, kc hb j0, kc hb j1, kc hb j2, kc hb j3, kc hb j4, hz'⟩
set_option maxHeartbeats 8000000 in
set_option maxRecDepth 100000 in
theorem BoxBytes_calls {w : World} (cs : Array Value) (x : Bool × (Int × Int) × (Int × Int)) (hK : (Kd.pair Kd.bool (Kd.pair (Kd.pair (Kd.int .i64) (Kd.int .i64)) (Kd.pair (Kd.int .i64) (Kd.int .i64)))).K w x cs.toList) (hq : True ∧ ((Lit.int .i64 x.2.1.1).wf = true ∧ (Lit.int .i64 x.2.1.2).wf = true) ∧ ((Lit.int .i64 x.2.2.1).wf = true ∧ (Lit.int .i64 x.2.2.2).wf = true)) (A : Option Addr) (c : Nat) (l : List Int) (hC : Kd.C (Kd.int .u8) w A l.length l) (hc : l.length ≤ c) (hq' : (∀ x ∈ l, (Lit.int .u8 x).wf = true) ∧ l.length ≤ 9223372036854775807) :
    Calls Tryd.prog 12 #[.agg cs, .slice A l.length c] w fun e w' => e = .returned (.bool true) ∧ Below w.heap.size w w' := by
  obtain ⟨b, hok, rfl⟩ := box_arg hK hq
  have hby := bytesOk_wf hq'.1
  have hCB : Hid (CB w A l) := Lib.hid hC
  have hlm := hq'.2
  clear hK hq hC hq'
  have HL := Lib.hid lives15
  have B := Blk.new w #[.bool b.no, .int .i64 b.lx, .int .i64 b.ly, .int .i64 b.hx, .int .i64 b.hy] 52
  have HB : Hid (Below w.heap.size w (w.alloc (.cells #[.bool b.no, .int .i64 b.lx, .int .i64 b.ly, .int .i64 b.hx, .int .i64 b.hy] 52))) := Lib.hid (by repeat (first | exact Below.refl _ _ | refine Below.drew ?_ | refine Below.alloc ?_ (by simp <;> omega) _))
  go_enter Tryd.func12, Tryd.ntmps12
  go_upto_region 1 with (fail)
  obtain ⟨W, hW⟩ : ∃ W, (w.alloc (.cells #[.bool b.no, .int .i64 b.lx, .int .i64 b.ly, .int .i64 b.hx, .int .i64 b.hy] 52)) = W := ⟨_, rfl⟩
  rw [hW] at B HB ⊢
  clear hW
  have CX := Lib.hid (hCB.out.below HB.out)
  by_cases h2 : 200 < l.length
  · have h2' : (200 : Int) < (l.length : Int) := by omega
    go_wp2_with (go_at_call 27; refine (HL.out _).mono ?_; rintro e w' ⟨rfl, hb⟩; have HB := Lib.hid (bthen HB.out hb))
    go_ret
    exact ⟨rfl, HB.out⟩
  have h2' : ¬ (200 : Int) < (l.length : Int) := by omega
  have HP : Hid (∀ w, CB w A l → Calls Tryd.prog 57 #[.slice A l.length c] w fun e w' => e = .returned (.tuple #[.agg #[.bool ((parseV l).1).no, .int .i64 ((parseV l).1).lx, .int .i64 ((parseV l).1).ly, .int .i64 ((parseV l).1).hx, .int .i64 ((parseV l).1).hy], .int .i64 (parseV l).2]) ∧ Bel w w') := Lib.hid (fun w h => boxParse_calls A c l w h hc (by omega) hby)
  have HR : Hid (∀ w, CB w A l → Calls Tryd.prog 58 #[.slice A l.length c] w fun e w' => e = .returned (.tuple #[.agg #[.bool ((parseV l).1).no, .int .i64 ((parseV l).1).lx, .int .i64 ((parseV l).1).ly, .int .i64 ((parseV l).1).hx, .int .i64 ((parseV l).1).hy], .int .i64 (parseV l).2]) ∧ Bel w w') := Lib.hid (fun w h => refParse_calls A c l w h hc (by omega) hby)
  obtain ⟨pv, hpv⟩ : ∃ p, parseV l = p := ⟨_, rfl⟩
  rw [hpv] at HP HR
  obtain ⟨pb, pe⟩ := pv
  dsimp only at HP HR
  clear hpv hby hlm
  go_upto_region 3 with (fail)
  go_wp2_with fail
  refine (HP.out _ CX.out).mono ?_
  rintro e w1 ⟨rfl, hb1⟩
  have B := Blk.bel B hb1
  have HB := Lib.hid (bthen HB.out hb1)
  have CX := Lib.hid (CX.out.below hb1)
  clear hb1
  go_upto_region 4 with (fail)
  have P := Blk.new w1 #[.bool pb.no, .int .i64 pb.lx, .int .i64 pb.ly, .int .i64 pb.hx, .int .i64 pb.hy] 52
  have B := Blk.alloc B (.cells #[.bool pb.no, .int .i64 pb.lx, .int .i64 pb.ly, .int .i64 pb.hx, .int .i64 pb.hy] 52)
  have HB := Lib.hid (HB.out.alloc HB.out.size (.cells #[.bool pb.no, .int .i64 pb.lx, .int .i64 pb.ly, .int .i64 pb.hx, .int .i64 pb.hy] 52))
  have CX := Lib.hid (CX.out.alloc (.cells #[.bool pb.no, .int .i64 pb.lx, .int .i64 pb.ly, .int .i64 pb.hx, .int .i64 pb.hy] 52))
  obtain ⟨w2, hW⟩ : ∃ W, w1.alloc (.cells #[.bool pb.no, .int .i64 pb.lx, .int .i64 pb.ly, .int .i64 pb.hx, .int .i64 pb.hy] 52) = W := ⟨_, rfl⟩
  rw [hW] at B P HB CX ⊢
  obtain ⟨gp, hg⟩ : ∃ g, w1.heap.size = g := ⟨_, rfl⟩
  rw [hg] at P ⊢
  clear hW hg
  go_wp2_with fail
  refine (HR.out _ CX.out).mono ?_
  rintro e w3 ⟨rfl, hb1⟩
  have B := Blk.bel B hb1
  have P := Blk.bel P hb1
  have HB := Lib.hid (bthen HB.out hb1)
  clear hb1 CX
  go_upto_region 5 with (fail)
  have Q := Blk.new w3 #[.bool pb.no, .int .i64 pb.lx, .int .i64 pb.ly, .int .i64 pb.hx, .int .i64 pb.hy] 52
  have B := Blk.alloc B (.cells #[.bool pb.no, .int .i64 pb.lx, .int .i64 pb.ly, .int .i64 pb.hx, .int .i64 pb.hy] 52)
  have P := Blk.alloc P (.cells #[.bool pb.no, .int .i64 pb.lx, .int .i64 pb.ly, .int .i64 pb.hx, .int .i64 pb.hy] 52)
  have HB := Lib.hid (HB.out.alloc HB.out.size (.cells #[.bool pb.no, .int .i64 pb.lx, .int .i64 pb.ly, .int .i64 pb.hx, .int .i64 pb.hy] 52))
  obtain ⟨w4, hW⟩ : ∃ W, w3.alloc (.cells #[.bool pb.no, .int .i64 pb.lx, .int .i64 pb.ly, .int .i64 pb.hx, .int .i64 pb.hy] 52) = W := ⟨_, rfl⟩
  rw [hW] at B P Q HB ⊢
  obtain ⟨gq, hg⟩ : ∃ g, w3.heap.size = g := ⟨_, rfl⟩
  rw [hg] at Q ⊢
  clear hW hg
  obtain ⟨b0, b1, b2, b3, b4⟩ := Blk.cells5 B
  go_wp2_with fail
  refine (boxBytes_calls b _).mono ?_
  rintro e w5 ⟨v, rfl, hr, hb1⟩
  have B := Blk.bel B hb1
  have P := Blk.bel P hb1
  have Q := Blk.bel Q hb1
  have HB5 := HB
  have HB := Lib.hid (bthen HB.out hb1)
  obtain ⟨Ay, cy, rfl, hcy, hCy⟩ := hr.reads
  clear hb1 b0 b1 b2 b3 b4
  go_upto_region 6 with (fail)
  have HRB := Lib.hid (fun w => refBytes_calls b w)
  have hyb := Lib.hid (bytesV_ok b)
  obtain ⟨ly, hly⟩ : ∃ ly, bytesV b = ly := ⟨_, rfl⟩
  rw [hly] at hr hcy hCy HRB hyb ⊢
  obtain ⟨s, hs⟩ : ∃ s, s = strOfNums ly := ⟨_, rfl⟩
  have HS := Lib.hid hs
  have HR5 := Lib.hid hr
  have HC5 := Lib.hid hCy
  have kS := hr.str
  rw [← hs] at kS
  clear hs hr hCy
  obtain ⟨b0, b1, b2, b3, b4⟩ := Blk.cells5 B
  obtain ⟨p0, p1, p2, p3, p4⟩ := Blk.cells5 P
  obtain ⟨q0, q1, q2, q3, q4⟩ := Blk.cells5 Q
  have hS0 := And.intro kS (And.intro b0 (And.intro b1 (And.intro b2 (And.intro b3 (And.intro b4 (And.intro p0 (And.intro p1 (And.intro p2 (And.intro p3 (And.intro p4 (And.intro q0 (And.intro q1 (And.intro q2 (And.intro q3 (And.intro q4 (Bel.refl w5))))))))))))))))
  have n1 := neqB pb pb
  rw [MBox.same_refl, Bool.not_true] at n1
  have n2 : (s.toList != s.toList) = false := bne_self_eq_false _
  have n3 : (pe != pe) = false := bne_self_eq_false _
  have N1 := Lib.hid n1
  have N2 := Lib.hid n2
  have N3 := Lib.hid n3
  clear n1 n2 n3 kS hS0 b0 b1 b2 b3 b4 p0 p1 p2 p3 p4 q0 q1 q2 q3 q4
  go_wp2_with fail

  refine Reg.region_mono (P := Tryd.prog) (Ext := Bel) (R := fun i v W => match i with
      | 0 => v = .slice Ay ly.length cy
      | 1 => v = .string s
      | 2 => v = .agg #[.bool b.no, .int .i64 b.lx, .int .i64 b.ly, .int .i64 b.hx, .int .i64 b.hy]
      | 3 => RB w5 W v ly
      | 4 => v = .string s
      | 5 => v = .bool false
      | 6 => v = .bool false
      | 7 => v = .agg #[.bool pb.no, .int .i64 pb.lx, .int .i64 pb.ly, .int .i64 pb.hx, .int .i64 pb.hy]
      | 8 => v = .agg #[.bool pb.no, .int .i64 pb.lx, .int .i64 pb.ly, .int .i64 pb.hx, .int .i64 pb.hy]
      | 9 => v = .bool false
      | 10 => v = .bool false
      | 11 => v = .bool false
      | 12 => v = .int .i64 pe
      | 13 => v = .int .i64 pe
      | 14 => v = .bool false
      | 15 => v = .bool false
      | _ => True) (fun W => Below w5.heap.size w5 W) rfl (by kernel_rfl) (by kernel_rfl) (Bel.drew w5) (fun W W' h h' => bthen h h') Bel.refl (by intro j v W W' hx h; split at h <;> first | exact h | exact RB.below h hx) ?_ ?_
  · intro i oi hoi a W hW need old
    match i, hoi with
    | 0, hoi =>
      simp only [List.getElem?_toArray, List.getElem?_cons_succ, List.getElem?_cons_zero, Option.some.injEq] at hoi
      subst hoi
      refine Reg.ob_plain rfl ?_
      have e9 : a.eval (.tmp 9) = .slice Ay ly.length cy := old 9 (by kernel_rfl)
      refine Reg.wp_val (W' := W) (v := _) (by simp only [execOp, e9, Reg.eval_const]; rfl) ⟨_, rfl, Bel.refl W, rfl⟩
    | 1, hoi =>
      simp only [List.getElem?_toArray, List.getElem?_cons_succ, List.getElem?_cons_zero, Option.some.injEq] at hoi
      subst hoi
      refine Reg.ob_plain rfl ?_
      have e28 : a.eval (.tmp 28) = .slice Ay ly.length cy := need 0 _ 28 rfl rfl (by kernel_rfl)
      have hs := (HR5.out.below hW).str
      rw [← HS.out] at hs
      refine Reg.wp_val (W' := W) (v := .string s) (by simp only [execOp, e28, Reg.eval_const, resolve, invoke, builtin, List.map_toArray, List.map_cons, List.map_nil, Option.map_some, Option.map_none]; (first | rfl | go_simp | (go_simp; rfl))) ⟨_, rfl, Bel.refl W, rfl⟩
    | 2, hoi =>
      simp only [List.getElem?_toArray, List.getElem?_cons_succ, List.getElem?_cons_zero, Option.some.injEq] at hoi
      subst hoi
      refine Reg.ob_plain rfl ?_
      have e2 : a.eval (.tmp 2) = .pointer (some ⟨w.heap.size, 0, none⟩) := old 2 (by kernel_rfl)
      obtain ⟨c0, c1, c2, c3, c4⟩ := Blk.cells5 (Blk.bel B hW)
      refine Reg.wp_val (W' := W) (v := .agg #[.bool b.no, .int .i64 b.lx, .int .i64 b.ly, .int .i64 b.hx, .int .i64 b.hy]) (by simp only [execOp, e2, Reg.eval_const, resolve, invoke, builtin, List.map_toArray, List.map_cons, List.map_nil, Option.map_some, Option.map_none]; (first | rfl | go_simp | (go_simp; rfl))) ⟨_, rfl, Bel.refl W, rfl⟩
    | 3, hoi =>
      simp only [List.getElem?_toArray, List.getElem?_cons_succ, List.getElem?_cons_zero, Option.some.injEq] at hoi
      subst hoi
      refine Reg.ob_plain rfl ?_
      have e30 : a.eval (.tmp 30) = .agg #[.bool b.no, .int .i64 b.lx, .int .i64 b.ly, .int .i64 b.hx, .int .i64 b.hy] := need 2 _ 30 rfl rfl (by kernel_rfl)
      refine Reg.wp_call (f := 60) (args := #[.agg #[.bool b.no, .int .i64 b.lx, .int .i64 b.ly, .int .i64 b.hx, .int .i64 b.hy]]) (by simp only [execOp, e30, Reg.eval_const, resolve, invoke, List.map_toArray, List.map_cons, List.map_nil]; go_simp) ?_
      refine (HRB.out _).mono ?_
      rintro e W' ⟨v, rfl, hr, hb⟩; exact ⟨v, rfl, v, rfl, hb, hr.lower hW.size⟩
    | 4, hoi =>
      simp only [List.getElem?_toArray, List.getElem?_cons_succ, List.getElem?_cons_zero, Option.some.injEq] at hoi
      subst hoi
      refine Reg.ob_plain rfl ?_
      have r31 := need 3 _ 31 rfl rfl (by kernel_rfl)
      simp only at r31
      obtain ⟨x31, e31⟩ : ∃ x, a.eval (.tmp 31) = x := ⟨_, rfl⟩
      rw [← Reg.eval_tmp, e31] at r31
      have hs := r31.str
      rw [← HS.out] at hs
      refine Reg.wp_val (W' := W) (v := .string s) (by simp only [execOp, e31, Reg.eval_const, resolve, invoke, builtin, List.map_toArray, List.map_cons, List.map_nil, Option.map_some, Option.map_none]; (first | rfl | go_simp | (go_simp; rfl))) ⟨_, rfl, Bel.refl W, rfl⟩
    | 5, hoi =>
      simp only [List.getElem?_toArray, List.getElem?_cons_succ, List.getElem?_cons_zero, Option.some.injEq] at hoi
      subst hoi
      refine Reg.ob_plain rfl ?_
      have e29 : a.eval (.tmp 29) = .string s := need 1 _ 29 rfl rfl (by kernel_rfl)
      have e32 : a.eval (.tmp 32) = .string s := need 4 _ 32 rfl rfl (by kernel_rfl)
      have n2 := N2.out
      have n2b := beq_self_eq_true s.toList
      refine Reg.wp_val (W' := W) (v := .bool false) (by simp only [execOp, e29, e32, Reg.eval_const, resolve, invoke, builtin, List.map_toArray, List.map_cons, List.map_nil, Option.map_some, Option.map_none]; (first | rfl | go_simp | (go_simp; rfl))) ⟨_, rfl, Bel.refl W, rfl⟩
    | 6, hoi =>
      simp only [List.getElem?_toArray, List.getElem?_cons_succ, List.getElem?_cons_zero, Option.some.injEq] at hoi
      subst hoi
      refine Reg.ob_plain rfl ?_
      have e33 : a.eval (.tmp 33) = .bool false := need 5 _ 33 rfl rfl (by kernel_rfl)
      refine Reg.wp_val (W' := W) (v := _) (by simp only [execOp, e33, Reg.eval_const]; rfl) ⟨_, rfl, Bel.refl W, rfl⟩
    | 7, hoi =>
      simp only [List.getElem?_toArray, List.getElem?_cons_succ, List.getElem?_cons_zero, Option.some.injEq] at hoi
      subst hoi
      have eg : a.eval (.tmp 34) = .bool false := need 6 _ 34 rfl rfl (by kernel_rfl)
      refine Reg.ob_yes rfl rfl rfl eg ?_
      have e5 : a.eval (.tmp 5) = .pointer (some ⟨gp, 0, none⟩) := old 5 (by kernel_rfl)
      obtain ⟨c0, c1, c2, c3, c4⟩ := Blk.cells5 (Blk.bel P hW)
      refine Reg.wp_val (W' := W) (v := .agg #[.bool pb.no, .int .i64 pb.lx, .int .i64 pb.ly, .int .i64 pb.hx, .int .i64 pb.hy]) (by simp only [execOp, e5, Reg.eval_const, resolve, invoke, builtin, List.map_toArray, List.map_cons, List.map_nil, Option.map_some, Option.map_none]; (first | rfl | go_simp | (go_simp; rfl))) ⟨_, rfl, Bel.refl W, rfl⟩
    | 8, hoi =>
      simp only [List.getElem?_toArray, List.getElem?_cons_succ, List.getElem?_cons_zero, Option.some.injEq] at hoi
      subst hoi
      have eg : a.eval (.tmp 34) = .bool false := need 6 _ 34 rfl rfl (by kernel_rfl)
      refine Reg.ob_yes rfl rfl rfl eg ?_
      have e7 : a.eval (.tmp 7) = .pointer (some ⟨gq, 0, none⟩) := old 7 (by kernel_rfl)
      obtain ⟨c0, c1, c2, c3, c4⟩ := Blk.cells5 (Blk.bel Q hW)
      refine Reg.wp_val (W' := W) (v := .agg #[.bool pb.no, .int .i64 pb.lx, .int .i64 pb.ly, .int .i64 pb.hx, .int .i64 pb.hy]) (by simp only [execOp, e7, Reg.eval_const, resolve, invoke, builtin, List.map_toArray, List.map_cons, List.map_nil, Option.map_some, Option.map_none]; (first | rfl | go_simp | (go_simp; rfl))) ⟨_, rfl, Bel.refl W, rfl⟩
    | 9, hoi =>
      simp only [List.getElem?_toArray, List.getElem?_cons_succ, List.getElem?_cons_zero, Option.some.injEq] at hoi
      subst hoi
      have eg : a.eval (.tmp 34) = .bool false := need 6 _ 34 rfl rfl (by kernel_rfl)
      refine Reg.ob_yes rfl rfl rfl eg ?_
      have e35 : a.eval (.tmp 35) = .agg #[.bool pb.no, .int .i64 pb.lx, .int .i64 pb.ly, .int .i64 pb.hx, .int .i64 pb.hy] := need 7 _ 35 rfl rfl (by kernel_rfl)
      have e36 : a.eval (.tmp 36) = .agg #[.bool pb.no, .int .i64 pb.lx, .int .i64 pb.ly, .int .i64 pb.hx, .int .i64 pb.hy] := need 8 _ 36 rfl rfl (by kernel_rfl)
      have n1 := N1.out
      refine Reg.wp_val (W' := W) (v := .bool false) (by simp only [execOp, e35, e36, Reg.eval_const, resolve, invoke, builtin, List.map_toArray, List.map_cons, List.map_nil, Option.map_some, Option.map_none]; (first | rfl | go_simp | (go_simp; rfl))) ⟨_, rfl, Bel.refl W, rfl⟩
    | 10, hoi =>
      simp only [List.getElem?_toArray, List.getElem?_cons_succ, List.getElem?_cons_zero, Option.some.injEq] at hoi
      subst hoi
      refine Reg.ob_plain rfl ?_
      have e34 : a.eval (.tmp 34) = .bool false := need 6 _ 34 rfl rfl (by kernel_rfl)
      have e37 : a.eval (.tmp 37) = .bool false := need 9 _ 37 rfl rfl (by kernel_rfl)
      refine Reg.wp_val (W' := W) (v := .bool false) (by simp only [execOp, e34, e37, Reg.eval_const, resolve, invoke, builtin, List.map_toArray, List.map_cons, List.map_nil, Option.map_some, Option.map_none]; (first | rfl | go_simp | (go_simp; rfl))) ⟨_, rfl, Bel.refl W, rfl⟩
    | 11, hoi =>
      simp only [List.getElem?_toArray, List.getElem?_cons_succ, List.getElem?_cons_zero, Option.some.injEq] at hoi
      subst hoi
      refine Reg.ob_plain rfl ?_
      have e38 : a.eval (.tmp 38) = .bool false := need 10 _ 38 rfl rfl (by kernel_rfl)
      refine Reg.wp_val (W' := W) (v := _) (by simp only [execOp, e38, Reg.eval_const]; rfl) ⟨_, rfl, Bel.refl W, rfl⟩
    | 12, hoi =>
      simp only [List.getElem?_toArray, List.getElem?_cons_succ, List.getElem?_cons_zero, Option.some.injEq] at hoi
      subst hoi
      have eg : a.eval (.tmp 39) = .bool false := need 11 _ 39 rfl rfl (by kernel_rfl)
      refine Reg.ob_yes rfl rfl rfl eg ?_
      have e6 : a.eval (.tmp 6) = .int .i64 pe := old 6 (by kernel_rfl)
      refine Reg.wp_val (W' := W) (v := _) (by simp only [execOp, e6, Reg.eval_const]; rfl) ⟨_, rfl, Bel.refl W, rfl⟩
    | 13, hoi =>
      simp only [List.getElem?_toArray, List.getElem?_cons_succ, List.getElem?_cons_zero, Option.some.injEq] at hoi
      subst hoi
      have eg : a.eval (.tmp 39) = .bool false := need 11 _ 39 rfl rfl (by kernel_rfl)
      refine Reg.ob_yes rfl rfl rfl eg ?_
      have e8 : a.eval (.tmp 8) = .int .i64 pe := old 8 (by kernel_rfl)
      refine Reg.wp_val (W' := W) (v := _) (by simp only [execOp, e8, Reg.eval_const]; rfl) ⟨_, rfl, Bel.refl W, rfl⟩
    | 14, hoi =>
      simp only [List.getElem?_toArray, List.getElem?_cons_succ, List.getElem?_cons_zero, Option.some.injEq] at hoi
      subst hoi
      have eg : a.eval (.tmp 39) = .bool false := need 11 _ 39 rfl rfl (by kernel_rfl)
      refine Reg.ob_yes rfl rfl rfl eg ?_
      have e40 : a.eval (.tmp 40) = .int .i64 pe := need 12 _ 40 rfl rfl (by kernel_rfl)
      have e41 : a.eval (.tmp 41) = .int .i64 pe := need 13 _ 41 rfl rfl (by kernel_rfl)
      have n3 := N3.out
      refine Reg.wp_val (W' := W) (v := .bool false) (by simp only [execOp, e40, e41, Reg.eval_const, resolve, invoke, builtin, List.map_toArray, List.map_cons, List.map_nil, Option.map_some, Option.map_none]; (first | rfl | go_simp | (go_simp; rfl))) ⟨_, rfl, Bel.refl W, rfl⟩
    | 15, hoi =>
      simp only [List.getElem?_toArray, List.getElem?_cons_succ, List.getElem?_cons_zero, Option.some.injEq] at hoi
      subst hoi
      refine Reg.ob_plain rfl ?_
      have e39 : a.eval (.tmp 39) = .bool false := need 11 _ 39 rfl rfl (by kernel_rfl)
      have e42 : a.eval (.tmp 42) = .bool false := need 14 _ 42 rfl rfl (by kernel_rfl)
      refine Reg.wp_val (W' := W) (v := .bool false) (by simp only [execOp, e39, e42, Reg.eval_const, resolve, invoke, builtin, List.map_toArray, List.map_cons, List.map_nil, Option.map_some, Option.map_none]; (first | rfl | go_simp | (go_simp; rfl))) ⟨_, rfl, Bel.refl W, rfl⟩
    | n + 16, hoi => simp at hoi
  · intro a w6 hW hsize hdef got same did
    have ha := Reg.act_of [28, 29, 30, 31, 32, 33, 34, 35, 36, 37, 38, 39, 40, 41, 42, 43] hsize hdef same (by kernel_rfl)
    simp only [List.foldl_cons, List.foldl_nil] at ha
    generalize a.tmps.getD 28 undef = y28 at ha
    generalize a.tmps.getD 29 undef = y29 at ha
    generalize a.tmps.getD 30 undef = y30 at ha
    generalize a.tmps.getD 31 undef = y31 at ha
    generalize a.tmps.getD 32 undef = y32 at ha
    generalize a.tmps.getD 33 undef = y33 at ha
    generalize a.tmps.getD 34 undef = y34 at ha
    generalize a.tmps.getD 35 undef = y35 at ha
    generalize a.tmps.getD 36 undef = y36 at ha
    generalize a.tmps.getD 37 undef = y37 at ha
    generalize a.tmps.getD 38 undef = y38 at ha
    generalize a.tmps.getD 39 undef = y39 at ha
    generalize a.tmps.getD 40 undef = y40 at ha
    generalize a.tmps.getD 41 undef = y41 at ha
    generalize a.tmps.getD 42 undef = y42 at ha
    have k43 := got 15 _ 43 rfl rfl
    simp only at k43
    rw [k43] at ha
    clear k43
    clear got same hsize hdef did
    subst ha
    simp only [List.setIfInBounds_toArray, List.set_cons_zero, List.set_cons_succ]

    have HB := Lib.hid (bthen HB.out hW)
    have B := Blk.bel B hW
    have CY := Lib.hid (HC5.out.below hW)
    clear hW P Q HR5 HC5
    cases hA : MBox.has b with
    | false =>
      have e0 : ly = [] := by rw [← hly]; unfold bytesV; rw [hA]; rfl
      subst e0
      clear hA
      go_wp2_with (go_at_call 27; refine (HL.out _).mono ?_; rintro e w' ⟨rfl, hb⟩; have HB := Lib.hid (bthen HB.out hb))
      go_ret
      exact ⟨rfl, HB.out⟩
    | true =>
      have hl32 : ly.length = 32 := by rw [← hly]; exact bytesV_len hA
      have hpv : parseV ly = (b, 0) := by rw [← hly]; exact parseV_bytes hok hA
      have HPy : Hid (∀ w, CB w Ay ly → Calls Tryd.prog 57 #[.slice Ay ly.length cy] w fun e w' => e = .returned (.tuple #[.agg #[.bool b.no, .int .i64 b.lx, .int .i64 b.ly, .int .i64 b.hx, .int .i64 b.hy], .int .i64 0]) ∧ Bel w w') := Lib.hid (fun w h => by have := boxParse_calls Ay cy ly w h hcy (by omega) hyb.out; rw [hpv] at this; exact this)
      have hl0 : ((ly.length : Int) == 0) = false := by rw [hl32]; rfl
      clear hpv hA hly hl32
      go_upto_region 10 with (fail)
      go_wp2_with fail
      refine (HPy.out _ CY.out).mono ?_
      rintro e w7 ⟨rfl, hb1⟩
      have B := Blk.bel B hb1
      have HB := Lib.hid (bthen HB.out hb1)
      clear hb1
      go_upto_region 11 with (fail)
      have Z := Blk.new w7 #[.bool b.no, .int .i64 b.lx, .int .i64 b.ly, .int .i64 b.hx, .int .i64 b.hy] 52
      have B := Blk.alloc B (.cells #[.bool b.no, .int .i64 b.lx, .int .i64 b.ly, .int .i64 b.hx, .int .i64 b.hy] 52)
      have HB := Lib.hid (HB.out.alloc HB.out.size (.cells #[.bool b.no, .int .i64 b.lx, .int .i64 b.ly, .int .i64 b.hx, .int .i64 b.hy] 52))
      obtain ⟨w8, hW⟩ : ∃ W, w7.alloc (.cells #[.bool b.no, .int .i64 b.lx, .int .i64 b.ly, .int .i64 b.hx, .int .i64 b.hy] 52) = W := ⟨_, rfl⟩
      rw [hW] at B Z HB ⊢
      obtain ⟨gz, hg⟩ : ∃ g, w7.heap.size = g := ⟨_, rfl⟩
      rw [hg] at Z ⊢
      clear hW hg
      obtain ⟨b0, b1, b2, b3, b4⟩ := Blk.cells5 B
      obtain ⟨z0, z1, z2, z3, z4⟩ := Blk.cells5 Z
      have n1 := eqB b b
      rw [MBox.same_refl] at n1
      go_wp2_with (go_at_call 27; refine (HL.out _).mono ?_; rintro e w' ⟨rfl, hb⟩; have HB := Lib.hid (bthen HB.out hb))
      go_ret
      exact ⟨by first | rfl | simp, HB.out⟩

end Go.Proofs.YtakkifedcbhgfaaDoor.K
