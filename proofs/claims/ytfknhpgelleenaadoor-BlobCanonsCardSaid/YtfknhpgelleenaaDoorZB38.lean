/- What a claim leans on, part 38, cut by a program out of the texts WOpen3. -/
import Derived.Handy
import Derived.IntWalk
import Derived.Test.YtfknhpgelleenaaDoorZB4
import Derived.Test.YtfknhpgelleenaaDoorZB37
section
namespace Go.Proofs.YtfknhpgelleenaaDoor.K
open Go Go.RowKit Go.Proofs.YtfknhpgelleenaaDoorW.PrintWords Go.Proofs.YtfknhpgelleenaaDoorW.PrintLast Go.Proofs.YtfknhpgelleenaaDoorW.PrintMore
set_option linter.unusedVariables false
set_option linter.unusedSimpArgs false
open Go.Proofs.YtfknhpgelleenaaDoor.MPeek
open Go.Proofs.YtfknhpgelleenaaDoor.MBox (noneB zeroB good)
open Go.Proofs.YtfknhpgelleenaaDoor.MShape (Sh)
open Go.Proofs.YtfknhpgelleenaaDoor.MRead (readS)
set_option maxHeartbeats 4000000 in
set_option maxRecDepth 100000 in
theorem open_bk (w : World) (A : Option Addr) (c : Nat) (l : List Int) (h : CB w A l) (hc : l.length ≤ c) (hb : bytesOk l) {srs : Int} {hl he : Bool} {hx : MBox.Bx} {lo : Bool} {b : MBox.Bx} {n : Nat} {s : Sh} (hp : peekS l = .ok ⟨srs, hl, true, he, hx⟩ n) (hr : readS (l.drop n) = (s, 0)) (hbx : boxOf s.flat = b) (hlo : decide ((l.drop n).headD 0 = 1) = lo) (hlen : l.length < 100000000000) (hGl : Gl w) (hs : sameH ⟨srs, hl, true, he, hx⟩ (wantS ⟨srs, hl, true, he, hx⟩ lo b) = true) :
    Calls Tryd.prog 46 #[.slice A l.length c] w fun ex w' => ∃ k0 B1 m1 e1 B2 m2 e2, ex = .returned (.tuple #[.agg #[.int .i64 srs, .bool hl, .bool true, .bool he, .bool hx.no, .int .i64 hx.lx, .int .i64 hx.ly, .int .i64 hx.hx, .int .i64 hx.hy], .agg #[.int .i64 k0, .slice B1 m1 e1, .slice B2 m2 e2], .int .i64 0]) ∧ Hid (KW.M w' w.heap.size (fun _ => True) s [.int .i64 k0, .slice B1 m1 e1, .slice B2 m2 e2]) ∧ Hid (Bel w w') := by
  have HC := Lib.hid h
  have HCN := Lib.hid hc
  have HBY := Lib.hid hb
  have HPK : Hid (∀ W, Bel w W → Calls Tryd.prog 77 #[.slice A l.length c] W fun ex w' => ex = .returned (.tuple #[.agg #[.int .i64 srs, .bool hl, .bool true, .bool he, .bool hx.no, .int .i64 hx.lx, .int .i64 hx.ly, .int .i64 hx.hx, .int .i64 hx.hy], .int .i64 n, .int .i64 0]) ∧ Bel W w') := Lib.hid (fun W hh => by
    have := peek_calls W A c l (h.below hh) hc hb
    rw [hp] at this
    exact this)
  obtain ⟨hn1, hn2, hn3⟩ := peek_n hp
  obtain ⟨ad, hA, hcell⟩ := h.at_ 0 (by omega)
  subst hA
  obtain ⟨bk, off, rfl, hlt⟩ := add_none hcell
  have hm := h.2.1
  have hDT := fun W (hh : Bel w W) => (h.below hh).drop n c (by omega) hc
  obtain ⟨t, ht⟩ : ∃ t, l.length = t := ⟨_, rfl⟩
  have hTl : (l.drop n).length = t - n := by rw [List.length_drop, ht]
  have hbT : bytesOk (l.drop n) := bytesOk_drop hb n
  obtain ⟨T, hT⟩ : ∃ T, l.drop n = T := ⟨_, rfl⟩
  rw [hT] at hTl hbT hDT hr
  rw [ht] at HPK HCN hm hn1 ⊢
  have hnt : (n : Int) ≤ (t : Int) := by omega
  have hn0 : (0 : Int) ≤ (n : Int) := by omega
  have hct := HCN.out
  rw [ht] at hlen
  rw [hT] at hlo
  have HX : ∃ x T', T = x :: T' := by
    cases T with
    | nil =>
      have h8 : (readS []).2 = 8 := by rfl
      rw [hr] at h8
      cases h8
    | cons x T' => exact ⟨x, T', rfl⟩
  obtain ⟨x, T', rfl⟩ := HX
  have hxb := hbT x (by simp)
  have hlx : decide (x = 1) = lo := hlo
  obtain ⟨lo2, hlo2⟩ : ∃ v, decide (x ≤ 1) = v := ⟨_, rfl⟩
  have htn : ¬ c = n := by simp only [List.length_cons] at hTl; omega
  have hz : ¬ c - n = 0 := by omega
  have hA2 : (if c = n then (some (⟨bk, off, none⟩ : Addr)) else (some (⟨bk, off, none⟩ : Addr)).map (fun x => x.add n)) = some ⟨bk, off + n, none⟩ := by rw [if_neg htn]; simp [add_mid]
  have HRD : Hid (∀ W, Bel w W → Gl w → Calls Tryd.prog 44 #[.slice (some ⟨bk, off + n, none⟩) (t - n) (c - n)] W fun ex w' => ∃ k0 B1 m1 e1 B2 m2 e2, ex = .returned (.tuple #[.agg #[.int .i64 k0, .slice B1 m1 e1, .slice B2 m2 e2], .int .i64 0]) ∧ Hid (KW.M w' W.heap.size (fun _ => True) s [.int .i64 k0, .slice B1 m1 e1, .slice B2 m2 e2]) ∧ Hid (Bel W w')) := Lib.hid (fun W hh hg => by
    have h9 := hDT W hh
    rw [hA2] at h9
    have := read_calls W (some ⟨bk, off + n, none⟩) (c - n) (x :: T') h9 hbT (by rw [hTl]; omega) (by rw [hTl]; omega) (hg.below hh hg.2.2)
    rw [hTl, hr] at this
    exact this)
  have HOR : Hid (∀ W, Bel w W → Calls Tryd.prog 45 #[.slice (some ⟨bk, off + n, none⟩) (t - n) (c - n)] W fun ex w' => ex = .returned (.tuple #[.bool lo, .bool lo2]) ∧ W = w') := Lib.hid (fun W hh => by
    have h9 := hDT W hh
    rw [hA2] at h9
    have := order_any W (some ⟨bk, off + n, none⟩) (c - n) x T' h9 hxb
    rw [hTl, hlx, hlo2] at this
    exact this)
  have HGL := Lib.hid hGl
  have HBX := Lib.hid hbx
  have HQ : Hid (∀ W, (binOp .neq 69 (.agg #[.int .i64 srs, .bool hl, .bool true, .bool he, .bool hx.no, .int .i64 hx.lx, .int .i64 hx.ly, .int .i64 hx.hx, .int .i64 hx.hy]) (.agg #[.int .i64 srs, .bool lo, .bool true, .bool b.no, .bool b.no, .int .i64 b.lx, .int .i64 b.ly, .int .i64 b.hx, .int .i64 b.hy])).run Tryd.prog W = .ok (.bool false) W) := Lib.hid (by
    intro W
    have hq := eqH _ _ _ _ hx b (a0 := srs) (b0 := srs) (a1 := hl) (b1 := lo) (a2 := true) (b2 := true) (a3 := he) (b3 := b.no) rfl rfl rfl rfl W
    have hs' : ((srs == srs) && ((hl == lo) && ((true == true) && ((he == b.no) && MBox.same hx b)))) = true := hs
    rw [hs'] at hq
    exact hq)
  clear hs
  clear h hb hp hcell hlt hDT hbT hT hTl hr hc hGl ht hA2 hlo2 hlx hlo hxb hbx htn
  have HZ := Lib.hid ((Blk.new w #[.int .i64 0, .bool false, .bool false, .bool false, .bool false, .int .i64 0, .int .i64 0, .int .i64 0, .int .i64 0] 69).alloc (.cells #[.int .i64 0, .slice none 0 0, .slice none 0 0] 25))
  have HY := Lib.hid (Blk.new_at (W := w.alloc (.cells #[.int .i64 0, .bool false, .bool false, .bool false, .bool false, .int .i64 0, .int .i64 0, .int .i64 0, .int .i64 0] 69)) (g := w.heap.size + 1) (by simp) #[.int .i64 0, .slice none 0 0, .slice none 0 0] 25)
  have HB0 : Hid (Bel w ((w.alloc (.cells #[.int .i64 0, .bool false, .bool false, .bool false, .bool false, .int .i64 0, .int .i64 0, .int .i64 0, .int .i64 0] 69)).alloc (.cells #[.int .i64 0, .slice none 0 0, .slice none 0 0] 25))) := Lib.hid (by repeat (first | exact Below.refl _ _ | refine Below.alloc ?_ (by simp <;> omega) _))
  go_enter Tryd.func46, Tryd.ntmps46
  go_upto_region 1 with (fail)
  obtain ⟨w1, hW⟩ : ∃ X, ((w.alloc (.cells #[.int .i64 0, .bool false, .bool false, .bool false, .bool false, .int .i64 0, .int .i64 0, .int .i64 0, .int .i64 0] 69)).alloc (.cells #[.int .i64 0, .slice none 0 0, .slice none 0 0] 25)) = X := ⟨_, rfl⟩
  rw [hW] at HZ HY HB0 ⊢
  clear hW
  obtain ⟨gr, hgr⟩ : ∃ x, w.heap.size = x := ⟨_, rfl⟩
  have HGR := Lib.hid hgr
  rw [hgr] at HZ HY ⊢
  obtain ⟨gs, hgs⟩ : ∃ x, gr + 1 = x := ⟨_, rfl⟩
  have HGS := Lib.hid hgs
  rw [hgs] at HY ⊢
  clear hgr hgs
  go_upto_region 2 with (go_at_call 77; refine (HPK.out w1 HB0.out).mono ?_; rintro e w2 ⟨rfl, b2⟩; have HB2 := Lib.hid b2; clear b2)
  have X := Blk.new w2 #[.int .i64 srs, .bool hl, .bool true, .bool he, .bool hx.no, .int .i64 hx.lx, .int .i64 hx.ly, .int .i64 hx.hx, .int .i64 hx.hy] 69
  have HB3 : Hid (Bel w2 (w2.alloc (.cells #[.int .i64 srs, .bool hl, .bool true, .bool he, .bool hx.no, .int .i64 hx.lx, .int .i64 hx.ly, .int .i64 hx.hx, .int .i64 hx.hy] 69))) := Lib.hid ((Bel.refl w2).alloc (Nat.le_refl _) _)
  obtain ⟨w3, hW⟩ : ∃ X, w2.alloc (.cells #[.int .i64 srs, .bool hl, .bool true, .bool he, .bool hx.no, .int .i64 hx.lx, .int .i64 hx.ly, .int .i64 hx.hx, .int .i64 hx.hy] 69) = X := ⟨_, rfl⟩
  rw [hW] at X HB3 ⊢
  clear hW
  obtain ⟨gh, hgh⟩ : ∃ x, w2.heap.size = x := ⟨_, rfl⟩
  rw [hgh] at X ⊢
  have HGH : Hid (gr < gh ∧ gs < gh) := Lib.hid ⟨by have := (Blk.bel HZ.out HB2.out).lt; omega, by have := (Blk.bel HY.out HB2.out).lt; omega⟩
  clear hgh
  have B3 := Lib.hid (bthen (bthen HB0.out HB2.out) HB3.out)
  have Z3 := Lib.hid (Blk.bel HZ.out (bthen HB2.out HB3.out))
  have Y3 := Lib.hid (Blk.bel HY.out (bthen HB2.out HB3.out))
  have X3 := Lib.hid X
  clear X
  go_upto_region 5 with (go_at_call 44; refine (HRD.out w3 B3.out HGL.out).mono ?_; rintro e w4 ⟨k0', B1, m1, cp1, B2, m2, cp2, rfl, hM, b4⟩)
  have X5 := Blk.new w4 #[.int .i64 k0', .slice B1 m1 cp1, .slice B2 m2 cp2] 25
  have HB5 : Hid (Bel w4 (w4.alloc (.cells #[.int .i64 k0', .slice B1 m1 cp1, .slice B2 m2 cp2] 25))) := Lib.hid ((Bel.refl w4).alloc (Nat.le_refl _) _)
  obtain ⟨w5, hW⟩ : ∃ X, w4.alloc (.cells #[.int .i64 k0', .slice B1 m1 cp1, .slice B2 m2 cp2] 25) = X := ⟨_, rfl⟩
  rw [hW] at X5 HB5 ⊢
  clear hW
  obtain ⟨gx, hgx⟩ : ∃ x, w4.heap.size = x := ⟨_, rfl⟩
  rw [hgx] at X5 ⊢
  have HNG : Hid (gr < gx ∧ gs < gx) := Lib.hid (by have h1 := (Blk.bel Z3.out b4.out).lt; have h2 := (Blk.bel Y3.out b4.out).lt; constructor <;> omega)
  clear hgx
  have HB35 := Lib.hid (bthen b4.out HB5.out)
  have B5 := Lib.hid (bthen B3.out HB35.out)
  have Z5 := Lib.hid (Blk.bel Z3.out HB35.out)
  have Y5 := Lib.hid (Blk.bel Y3.out HB35.out)
  have XH5 := Lib.hid (Blk.bel X3.out HB35.out)
  have M5 := Lib.hid (Kd.M_below (d := KW) hM.out HB5.out)
  have HX5 := Lib.hid X5
  have HOF : Hid (Calls Tryd.prog 64 #[.agg #[.int .i64 k0', .slice B1 m1 cp1, .slice B2 m2 cp2]] w5 fun e w' => e = .returned (.agg #[.bool b.no, .int .i64 b.lx, .int .i64 b.ly, .int .i64 b.hx, .int .i64 b.hy]) ∧ Bel w5 w') := Lib.hid (by
    obtain ⟨dd, hm⟩ := M5.out
    have := boxOf_calls w5 (.int .i64 k0', .slice B1 m1 cp1, .slice B2 m2 cp2) dd s.flat (fun k hk => ShB.isSh hk dd (MW.shB (c := (.int .i64 k0', .slice B1 m1 cp1, .slice B2 m2 cp2)) hm))
    rw [HBX.out] at this
    exact this)
  obtain ⟨x0, x1, x2⟩ := Blk.cells3 X5
  clear X5
  go_upto_region 9 with (first
    | (go_at_call 64; refine (HOF.out).mono ?_; rintro e w6 ⟨rfl, b6⟩; have HB6 := Lib.hid b6; clear b6)
    | (go_at_call 45; refine (HOR.out w5 B5.out).mono ?_; rintro e w9 ⟨rfl, rfl⟩))
  have A7 := Blk.new w6 #[.bool b.no, .int .i64 b.lx, .int .i64 b.ly, .int .i64 b.hx, .int .i64 b.hy] 67
  have HB7 : Hid (Bel w6 (w6.alloc (.cells #[.bool b.no, .int .i64 b.lx, .int .i64 b.ly, .int .i64 b.hx, .int .i64 b.hy] 67))) := Lib.hid ((Bel.refl w6).alloc (Nat.le_refl _) _)
  obtain ⟨w7, hW⟩ : ∃ X, w6.alloc (.cells #[.bool b.no, .int .i64 b.lx, .int .i64 b.ly, .int .i64 b.hx, .int .i64 b.hy] 67) = X := ⟨_, rfl⟩
  rw [hW] at A7 HB7 ⊢
  clear hW x0 x1 x2
  obtain ⟨ga, hga⟩ : ∃ x, w6.heap.size = x := ⟨_, rfl⟩
  rw [hga] at A7 ⊢
  clear hga
  have HB57 := Lib.hid (bthen HB6.out HB7.out)
  have B7 := Lib.hid (bthen B5.out HB57.out)
  have Z7 := Lib.hid (Blk.bel Z5.out HB57.out)
  have Y7 := Lib.hid (Blk.bel Y5.out HB57.out)
  have XH7 := Lib.hid (Blk.bel XH5.out HB57.out)
  have GX7 := Lib.hid (Blk.bel HX5.out HB57.out)
  have HA7 := Lib.hid A7
  have M7 := Lib.hid (Kd.M_below (d := KW) M5.out HB57.out)
  clear A7
  have e0 : w7.cell? ⟨gh, 0, none⟩ = some (.int .i64 srs) := XH7.out.cell 0 rfl
  have e2 : w7.cell? ⟨gh, 2, none⟩ = some (.bool true) := XH7.out.cell 2 rfl
  have e3 : w7.cell? ⟨ga, 0, none⟩ = some (.bool b.no) := HA7.out.cell 0 rfl
  have hgh7 : gh < w7.heap.size := XH7.out.lt
  have hga7 : ga < w7.heap.size := HA7.out.lt
  go_cut [12] from 45 (fun p W' => ∃ gw, p = .pointer (some ⟨gw, 0, none⟩) ∧ Hid (w7.heap.size ≤ gw) ∧ Hid (Bel w7 W') ∧ Hid (Blk W' gw #[.int .i64 srs, .bool lo, .bool true, .bool b.no, .bool true, .int .i64 0, .int .i64 0, .int .i64 0, .int .i64 0] 69))
  case first =>
    clear e0 e2 e3 hgh7 hga7
    refine Reg.region_gen (P := Tryd.prog) (Ext := fun i W W' => ∀ g, HA w7.heap.size W g → HA w7.heap.size W' g) (R := fun i v W => match i with
        | 0 => v = .pointer (some ⟨gh, 0, none⟩)
        | 1 => v = .int .i64 srs
        | 2 => v = .bool lo
        | 3 => v = .pointer (some ⟨gh, 2, none⟩)
        | 4 => v = .bool true
        | 5 => v = .pointer (some ⟨ga, 0, none⟩)
        | 6 => v = .bool b.no
        | 7 => v = .agg #[.bool true, .int .i64 0, .int .i64 0, .int .i64 0, .int .i64 0]
        | 8 => v = .agg #[.int .i64 srs, .bool lo, .bool true, .bool b.no, .bool true, .int .i64 0, .int .i64 0, .int .i64 0, .int .i64 0]
        | 9 => ∃ g, v = .pointer (some ⟨g, 0, none⟩) ∧ HA w7.heap.size W g
        | 10 => True
        | _ => True) [] (fun m W => E9 w7 #[.int .i64 srs, .bool lo, .bool true, .bool b.no, .bool true, .int .i64 0, .int .i64 0, .int .i64 0, .int .i64 0] m W) rfl (by kernel_rfl) (by kernel_rfl) (E9.start w7 _) (fun i W _ h => h) (by intro i j v W W' hij hk hr hx h; split at h <;> first | exact h | (obtain ⟨g, h1, h2⟩ := h; exact ⟨g, h1, hx g h2⟩)) ?_ ?_
    · intro i oi hoi a W m hW hmi hpre need old
      match i, hoi with
      | 0, hoi =>
        simp only [List.getElem?_toArray, List.getElem?_cons_succ, List.getElem?_cons_zero, Option.some.injEq] at hoi
        subst hoi
        refine Reg.ob2_plain rfl ?_
        have e5 : a.eval (.tmp 5) = .pointer (some ⟨gh, 0, none⟩) := old 5 (by kernel_rfl)
        refine Reg.wp_val (W' := W) (v := .pointer (some ⟨gh, 0, none⟩)) (by simp only [execOp, e5, Reg.eval_const, resolve, invoke, builtin, List.map_toArray, List.map_cons, List.map_nil, Option.map_some, Option.map_none]; (first | rfl | go_simp | (go_simp; rfl))) ⟨_, rfl, (fun _ h => h), rfl, hW⟩
      | 1, hoi =>
        simp only [List.getElem?_toArray, List.getElem?_cons_succ, List.getElem?_cons_zero, Option.some.injEq] at hoi
        subst hoi
        refine Reg.ob2_plain rfl ?_
        have e45 : a.eval (.tmp 45) = .pointer (some ⟨gh, 0, none⟩) := need 0 _ 45 rfl rfl (by kernel_rfl) (by kernel_rfl)
        have hx := Blk.cell (Blk.bel XH7.out hW.1) 0 rfl
        refine Reg.wp_val (W' := W) (v := .int .i64 srs) (by simp only [execOp, e45, Reg.eval_const, resolve, invoke, builtin, List.map_toArray, List.map_cons, List.map_nil, Option.map_some, Option.map_none]; (first | rfl | go_simp | (go_simp; rfl))) ⟨_, rfl, (fun _ h => h), rfl, hW⟩
      | 2, hoi =>
        simp only [List.getElem?_toArray, List.getElem?_cons_succ, List.getElem?_cons_zero, Option.some.injEq] at hoi
        subst hoi
        refine Reg.ob2_plain rfl ?_
        have e9 : a.eval (.tmp 9) = .bool lo := old 9 (by kernel_rfl)
        refine Reg.wp_val (W' := W) (v := _) (by simp only [execOp, e9, Reg.eval_const]; rfl) ⟨_, rfl, (fun _ h => h), rfl, hW⟩
      | 3, hoi =>
        simp only [List.getElem?_toArray, List.getElem?_cons_succ, List.getElem?_cons_zero, Option.some.injEq] at hoi
        subst hoi
        refine Reg.ob2_plain rfl ?_
        have e5 : a.eval (.tmp 5) = .pointer (some ⟨gh, 0, none⟩) := old 5 (by kernel_rfl)
        refine Reg.wp_val (W' := W) (v := .pointer (some ⟨gh, 2, none⟩)) (by simp only [execOp, e5, Reg.eval_const, resolve, invoke, builtin, List.map_toArray, List.map_cons, List.map_nil, Option.map_some, Option.map_none]; (first | rfl | go_simp | (go_simp; rfl))) ⟨_, rfl, (fun _ h => h), rfl, hW⟩
      | 4, hoi =>
        simp only [List.getElem?_toArray, List.getElem?_cons_succ, List.getElem?_cons_zero, Option.some.injEq] at hoi
        subst hoi
        refine Reg.ob2_plain rfl ?_
        have e48 : a.eval (.tmp 48) = .pointer (some ⟨gh, 2, none⟩) := need 3 _ 48 rfl rfl (by kernel_rfl) (by kernel_rfl)
        have hx := Blk.cell (Blk.bel XH7.out hW.1) 2 rfl
        refine Reg.wp_val (W' := W) (v := .bool true) (by simp only [execOp, e48, Reg.eval_const, resolve, invoke, builtin, List.map_toArray, List.map_cons, List.map_nil, Option.map_some, Option.map_none]; (first | rfl | go_simp | (go_simp; rfl))) ⟨_, rfl, (fun _ h => h), rfl, hW⟩
      | 5, hoi =>
        simp only [List.getElem?_toArray, List.getElem?_cons_succ, List.getElem?_cons_zero, Option.some.injEq] at hoi
        subst hoi
        refine Reg.ob2_plain rfl ?_
        have e11 : a.eval (.tmp 11) = .pointer (some ⟨ga, 0, none⟩) := old 11 (by kernel_rfl)
        refine Reg.wp_val (W' := W) (v := .pointer (some ⟨ga, 0, none⟩)) (by simp only [execOp, e11, Reg.eval_const, resolve, invoke, builtin, List.map_toArray, List.map_cons, List.map_nil, Option.map_some, Option.map_none]; (first | rfl | go_simp | (go_simp; rfl))) ⟨_, rfl, (fun _ h => h), rfl, hW⟩
      | 6, hoi =>
        simp only [List.getElem?_toArray, List.getElem?_cons_succ, List.getElem?_cons_zero, Option.some.injEq] at hoi
        subst hoi
        refine Reg.ob2_plain rfl ?_
        have e50 : a.eval (.tmp 50) = .pointer (some ⟨ga, 0, none⟩) := need 5 _ 50 rfl rfl (by kernel_rfl) (by kernel_rfl)
        have hx := Blk.cell (Blk.bel HA7.out hW.1) 0 rfl
        refine Reg.wp_val (W' := W) (v := .bool b.no) (by simp only [execOp, e50, Reg.eval_const, resolve, invoke, builtin, List.map_toArray, List.map_cons, List.map_nil, Option.map_some, Option.map_none]; (first | rfl | go_simp | (go_simp; rfl))) ⟨_, rfl, (fun _ h => h), rfl, hW⟩
      | 7, hoi =>
        simp only [List.getElem?_toArray, List.getElem?_cons_succ, List.getElem?_cons_zero, Option.some.injEq] at hoi
        subst hoi
        refine Reg.ob2_plain rfl ?_
        refine Reg.wp_call (f := 78) (args := #[]) (by simp only [execOp, Reg.eval_const, resolve, invoke, List.map_toArray, List.map_cons, List.map_nil]; go_simp) ?_
        refine (none_exact W).mono ?_
        rintro e W' ⟨rfl, hb, hn⟩; exact ⟨_, rfl, _, rfl, (fun _ h => HA.bel h hb), rfl, E9.bel hW hb hn⟩
      | 8, hoi =>
        simp only [List.getElem?_toArray, List.getElem?_cons_succ, List.getElem?_cons_zero, Option.some.injEq] at hoi
        subst hoi
        refine Reg.ob2_plain rfl ?_
        have e46 : a.eval (.tmp 46) = .int .i64 srs := need 1 _ 46 rfl rfl (by kernel_rfl) (by kernel_rfl)
        have e47 : a.eval (.tmp 47) = .bool lo := need 2 _ 47 rfl rfl (by kernel_rfl) (by kernel_rfl)
        have e49 : a.eval (.tmp 49) = .bool true := need 4 _ 49 rfl rfl (by kernel_rfl) (by kernel_rfl)
        have e51 : a.eval (.tmp 51) = .bool b.no := need 6 _ 51 rfl rfl (by kernel_rfl) (by kernel_rfl)
        have e52 : a.eval (.tmp 52) = .agg #[.bool true, .int .i64 0, .int .i64 0, .int .i64 0, .int .i64 0] := need 7 _ 52 rfl rfl (by kernel_rfl) (by kernel_rfl)
        refine Reg.wp_val (W' := W) (v := .agg #[.int .i64 srs, .bool lo, .bool true, .bool b.no, .bool true, .int .i64 0, .int .i64 0, .int .i64 0, .int .i64 0]) (by simp only [execOp, e46, e47, e49, e51, e52, Reg.eval_const, resolve, invoke, builtin, List.map_toArray, List.map_cons, List.map_nil, Option.map_some, Option.map_none]; (first | rfl | go_simp | (go_simp; rfl))) ⟨_, rfl, (fun _ h => h), rfl, hW⟩
      | 9, hoi =>
        simp only [List.getElem?_toArray, List.getElem?_cons_succ, List.getElem?_cons_zero, Option.some.injEq] at hoi
        subst hoi
        refine Reg.ob2_plain rfl ?_
        refine Reg.wp_val (W' := W.alloc (.cells #[.int .i64 0, .bool false, .bool false, .bool false, .bool false, .int .i64 0, .int .i64 0, .int .i64 0, .int .i64 0] 69)) (v := .pointer (some ⟨W.heap.size, 0, none⟩)) (by simp only [execOp]; go_simp) ⟨_, rfl, (fun _ h => HA.bel h ((Bel.refl W).alloc (Nat.le_refl _) _)), ⟨W.heap.size, rfl, hW.1.size, _, Blk.new W _ _⟩, E9.make hW hmi⟩
      | 10, hoi =>
        simp only [List.getElem?_toArray, List.getElem?_cons_succ, List.getElem?_cons_zero, Option.some.injEq] at hoi
        subst hoi
        refine Reg.ob2_plain rfl ?_
        have r12 := need 9 _ 12 rfl rfl (by kernel_rfl) (by kernel_rfl)
        simp only at r12
        obtain ⟨x12, e12⟩ : ∃ x, a.eval (.tmp 12) = x := ⟨_, rfl⟩
        rw [← Reg.eval_tmp, e12] at r12
        have e53 : a.eval (.tmp 53) = .agg #[.int .i64 srs, .bool lo, .bool true, .bool b.no, .bool true, .int .i64 0, .int .i64 0, .int .i64 0, .int .i64 0] := need 8 _ 53 rfl rfl (by kernel_rfl) (by kernel_rfl)
        obtain ⟨g, hx12, hha⟩ := r12
        subst hx12
        have hB := E9.blk hW (hpre 9 (by kernel_rfl)) hmi hha
        obtain ⟨z0, z1, z2, z3, z4, z5, z6, z7, z8⟩ := Blk.cells9 hB
        have k0 := hB.froz 0; have k1 := hB.froz 1; have k2 := hB.froz 2; have k3 := hB.froz 3; have k4 := hB.froz 4; have k5 := hB.froz 5; have k6 := hB.froz 6; have k7 := hB.froz 7; have k8 := hB.froz 8
        refine Reg.wp_skip (W' := K.set9 W g (.int .i64 srs) (.bool lo) (.bool true) (.bool b.no) (.bool true) (.int .i64 0) (.int .i64 0) (.int .i64 0) (.int .i64 0)) (by simp only [execOp, e12, e53, Reg.eval_const]; go_simp; rfl) ⟨_, rfl, (fun _ h => HA.set9 h hha.1), trivial, E9.put hW (hpre 9 (by kernel_rfl)) hmi hha⟩
      | n + 11, hoi => simp at hoi
    · intro a w9 m hW hall hsize hdef got same did
      have ha := Reg.act_of [45, 46, 47, 48, 49, 50, 51, 52, 53, 12] hsize hdef same (by kernel_rfl)
      simp only [List.foldl_cons, List.foldl_nil] at ha
      generalize a.tmps.getD 45 undef = y45 at ha
      generalize a.tmps.getD 46 undef = y46 at ha
      generalize a.tmps.getD 47 undef = y47 at ha
      generalize a.tmps.getD 48 undef = y48 at ha
      generalize a.tmps.getD 49 undef = y49 at ha
      generalize a.tmps.getD 50 undef = y50 at ha
      generalize a.tmps.getD 51 undef = y51 at ha
      generalize a.tmps.getD 52 undef = y52 at ha
      generalize a.tmps.getD 53 undef = y53 at ha
      have k12 := got 9 _ 12 rfl rfl (by kernel_rfl)
      simp only at k12
      generalize a.tmps.getD 12 undef = y12 at ha k12
      clear got same hsize hdef
      subst ha
      simp only [List.setIfInBounds_toArray, List.set_cons_zero, List.set_cons_succ]
      obtain ⟨g0, q1, q2⟩ := k12
      subst q1
      have q3 := hW.2.2.2 (hall 9 (by decide))
      obtain ⟨g1, q4, q5, q6⟩ := q3
      rw [if_pos (hall 10 (by decide))] at q5
      rw [← q6 g0 q2] at q4 q5
      have HW9 := Lib.hid hW.1
      have HQ5 := Lib.hid q5
      clear hW hall did q2 q5 q6
      first | go_wp2 | skip
      go_meet
      exact ⟨g0, rfl, Lib.hid q4, Lib.hid HW9.out, Lib.hid HQ5.out⟩
  case rest =>
    obtain ⟨gw, rfl, HGW, HB9, GW9⟩ := hcut
    clear e0 e2 e3 hgh7 hga7
    have XH9 := Lib.hid (Blk.bel XH7.out HB9.out)
    have HA9 := Lib.hid (Blk.bel HA7.out HB9.out)
    have B9 := Lib.hid (bthen B7.out HB9.out)
    have HNE : Hid (gr < gh ∧ gs < gh ∧ gh < w7.heap.size ∧ gx < w7.heap.size ∧ w7.heap.size ≤ gw) := Lib.hid ⟨HGH.out.1, HGH.out.2, XH7.out.lt, GX7.out.lt, HGW.out⟩
    obtain ⟨e0, e1, e2, e3, e4, e5, e6, e7, e8⟩ := Blk.cells9 XH9.out
    have WG := Blk.setB (e' := .bool b.no) (f' := .int .i64 b.lx) (h' := .int .i64 b.ly) (i' := .int .i64 b.hx) (j' := .int .i64 b.hy) GW9.out
    have hgw : w.heap.size ≤ gw := by have := B7.out.size; have := HGW.out; omega
    have B10 := Lib.hid (below_set (i := 8) (below_set (i := 7) (below_set (i := 6) (below_set (i := 5) (below_set (i := 4) B9.out hgw (.bool b.no)) hgw (.int .i64 b.lx)) hgw (.int .i64 b.ly)) hgw (.int .i64 b.hx)) hgw (.int .i64 b.hy))
    have B710 := Lib.hid (below_set (i := 8) (below_set (i := 7) (below_set (i := 6) (below_set (i := 5) (below_set (i := 4) HB9.out HGW.out (.bool b.no)) HGW.out (.int .i64 b.lx)) HGW.out (.int .i64 b.ly)) HGW.out (.int .i64 b.hx)) HGW.out (.int .i64 b.hy))
    have a0 : wc.cell? ⟨ga, 0, none⟩ = some (.bool b.no) := HA9.out.cell 0 rfl
    have a1 : wc.cell? ⟨ga, 1, none⟩ = some (.int .i64 b.lx) := HA9.out.cell 1 rfl
    have a2 : wc.cell? ⟨ga, 2, none⟩ = some (.int .i64 b.ly) := HA9.out.cell 2 rfl
    have a3 : wc.cell? ⟨ga, 3, none⟩ = some (.int .i64 b.hx) := HA9.out.cell 3 rfl
    have a4 : wc.cell? ⟨ga, 4, none⟩ = some (.int .i64 b.hy) := HA9.out.cell 4 rfl
    obtain ⟨g0, g1, g2, g3, g4, g5, g6, g7, g8⟩ := Blk.cells9 GW9.out
    have k4 := GW9.out.froz 4; have k5 := GW9.out.froz 5; have k6 := GW9.out.froz 6; have k7 := GW9.out.froz 7; have k8 := GW9.out.froz 8
    go_upto_region 12 with (fail)
    obtain ⟨w10, hW⟩ : ∃ X, ((((wc.setCell ⟨gw, 4, none⟩ (.bool b.no)).setCell ⟨gw, 5, none⟩ (.int .i64 b.lx)).setCell ⟨gw, 6, none⟩ (.int .i64 b.ly)).setCell ⟨gw, 7, none⟩ (.int .i64 b.hx)).setCell ⟨gw, 8, none⟩ (.int .i64 b.hy) = X := ⟨_, rfl⟩
    rw [hW] at WG B10 B710 ⊢
    clear hW e0 e1 e2 e3 e4 e5 e6 e7 e8 a0 a1 a2 a3 a4 g0 g1 g2 g3 g4 g5 g6 g7 g8 k4 k5 k6 k7 k8 hgw
    have XH10 := Lib.hid (Blk.bel XH7.out B710.out)
    have Z10 := Lib.hid (Blk.bel Z7.out B710.out)
    have Y10 := Lib.hid (Blk.bel Y7.out B710.out)
    have GX10 := Lib.hid (Blk.bel GX7.out B710.out)
    have M10 := Lib.hid (Kd.M_below (d := KW) M7.out B710.out)
    obtain ⟨e0, e1, e2, e3, e4, e5, e6, e7, e8⟩ := Blk.cells9 XH10.out
    obtain ⟨g0, g1, g2, g3, g4, g5, g6, g7, g8⟩ := Blk.cells9 WG
    have q1 := HQ.out
    go_upto_region 14 with (fail)
    clear g0 g1 g2 g3 g4 g5 g6 g7 g8 q1
    obtain ⟨g0, g1, g2⟩ := Blk.cells3 GX10.out
    obtain ⟨z0, z1, z2, z3, z4, z5, z6, z7, z8⟩ := Blk.cells9 Z10.out
    have k0 := Z10.out.froz 0; have k1 := Z10.out.froz 1; have k2 := Z10.out.froz 2; have k3 := Z10.out.froz 3; have k4 := Z10.out.froz 4; have k5 := Z10.out.froz 5; have k6 := Z10.out.froz 6; have k7 := Z10.out.froz 7; have k8 := Z10.out.froz 8
    obtain ⟨y0, y1, y2⟩ := Blk.cells3 Y10.out
    have j0 := Y10.out.froz 0; have j1 := Y10.out.froz 1; have j2 := Y10.out.froz 2
    have hne1 : ¬ gs = gr := by have := HGS.out; omega
    have hne2 : ¬ gr = gs := by have := HGS.out; omega
    have hne3 : ¬ gh = gr := by have := HNE.out; omega
    have hne4 : ¬ gh = gs := by have := HNE.out; omega
    have hne5 : ¬ gx = gr := by have := HNG.out; omega
    have hne6 : ¬ gx = gs := by have := HNG.out; omega
    go_region_law (fail)
    all_goals
      clear z0 z1 z2 z3 z4 z5 z6 z7 z8 k0 k1 k2 k3 k4 k5 k6 k7 k8 y0 y1 y2 j0 j1 j2 g0 g1 g2 e0 e1 e2 e3 e4 e5 e6 e7 e8
      have ZE := Blk.set3_ne (j := gs) (x' := .int .i64 k0') (y' := .slice B1 m1 cp1) (z' := .slice B2 m2 cp2) (Blk.set9 (a' := .int .i64 srs) (b' := .bool hl) (c' := .bool true) (d' := .bool he) (e' := .bool hx.no) (f' := .int .i64 hx.lx) (h' := .int .i64 hx.ly) (i' := .int .i64 hx.hx) (j' := .int .i64 hx.hy) Z10.out) hne2
      have YE := Blk.set3 (x' := .int .i64 k0') (y' := .slice B1 m1 cp1) (z' := .slice B2 m2 cp2) (set9_ne Y10.out hne1 (.int .i64 srs) (.bool hl) (.bool true) (.bool he) (.bool hx.no) (.int .i64 hx.lx) (.int .i64 hx.ly) (.int .i64 hx.hx) (.int .i64 hx.hy))
      have ME : KW.M ((((K.set9 w10 gr (.int .i64 srs) (.bool hl) (.bool true) (.bool he) (.bool hx.no) (.int .i64 hx.lx) (.int .i64 hx.ly) (.int .i64 hx.hx) (.int .i64 hx.hy)).setCell ⟨gs, 0, none⟩ (.int .i64 k0')).setCell ⟨gs, 1, none⟩ (.slice B1 m1 cp1)).setCell ⟨gs, 2, none⟩ (.slice B2 m2 cp2)) w.heap.size (fun _ => True) s [.int .i64 k0', .slice B1 m1 cp1, .slice B2 m2 cp2] := by
        obtain ⟨dd, hm⟩ := M10.out
        have hm2 : KW.M w10 w3.heap.size (fun k => w3.heap.size ≤ k) s [.int .i64 k0', .slice B1 m1 cp1, .slice B2 m2 cp2] := ⟨dd, hm.bound.mono (fun k hk => hk.2.1)⟩
        have hz3 := Z3.out.lt
        have hy3 := Y3.out.lt
        have hne7 : ∀ k, w3.heap.size ≤ k → k ≠ gr := fun k hk => by omega
        have hne8 : ∀ k, w3.heap.size ≤ k → k ≠ gs := fun k hk => by omega
        obtain ⟨d9, h9⟩ := far3 (far9 hm2 hne7 (.int .i64 srs) (.bool hl) (.bool true) (.bool he) (.bool hx.no) (.int .i64 hx.lx) (.int .i64 hx.ly) (.int .i64 hx.hx) (.int .i64 hx.hy)) hne8 (.int .i64 k0') (.slice B1 m1 cp1) (.slice B2 m2 cp2)
        exact ⟨d9, (h9.mono (fun _ _ => trivial)).lower B3.out.size⟩
      unfold K.set9 at ZE YE ME
      have HME := Lib.hid ME
      clear ME
      have HBE : Hid (Bel w ((((((((((((w10.setCell ⟨gr, 0, none⟩ (.int .i64 srs)).setCell ⟨gr, 1, none⟩ (.bool hl)).setCell ⟨gr, 2, none⟩ (.bool true)).setCell ⟨gr, 3, none⟩ (.bool he)).setCell ⟨gr, 4, none⟩ (.bool hx.no)).setCell ⟨gr, 5, none⟩ (.int .i64 hx.lx)).setCell ⟨gr, 6, none⟩ (.int .i64 hx.ly)).setCell ⟨gr, 7, none⟩ (.int .i64 hx.hx)).setCell ⟨gr, 8, none⟩ (.int .i64 hx.hy)).setCell ⟨gs, 0, none⟩ (.int .i64 k0')).setCell ⟨gs, 1, none⟩ (.slice B1 m1 cp1)).setCell ⟨gs, 2, none⟩ (.slice B2 m2 cp2))) := Lib.hid (below_set3 (below_set9 B10.out (by have := HGR.out; omega) _ _ _ _ _ _ _ _ _) (by have := HGR.out; have := HGS.out; omega) _ _ _)
      obtain ⟨wE, hE⟩ : ∃ X, ((((((((((((w10.setCell ⟨gr, 0, none⟩ (.int .i64 srs)).setCell ⟨gr, 1, none⟩ (.bool hl)).setCell ⟨gr, 2, none⟩ (.bool true)).setCell ⟨gr, 3, none⟩ (.bool he)).setCell ⟨gr, 4, none⟩ (.bool hx.no)).setCell ⟨gr, 5, none⟩ (.int .i64 hx.lx)).setCell ⟨gr, 6, none⟩ (.int .i64 hx.ly)).setCell ⟨gr, 7, none⟩ (.int .i64 hx.hx)).setCell ⟨gr, 8, none⟩ (.int .i64 hx.hy)).setCell ⟨gs, 0, none⟩ (.int .i64 k0')).setCell ⟨gs, 1, none⟩ (.slice B1 m1 cp1)).setCell ⟨gs, 2, none⟩ (.slice B2 m2 cp2)) = X := ⟨_, rfl⟩
      rw [hE] at ZE YE HME HBE ⊢
      clear hE
      have HZE := Lib.hid ZE
      have HYE := Lib.hid YE
      clear ZE YE hne1 hne2 hne3 hne4 hne5 hne6
      go_wp2
      obtain ⟨q0, q1, q2, q3, q4, q5, q6, q7, q8⟩ := Blk.cells9 HZE.out
      obtain ⟨p0, p1, p2⟩ := Blk.cells3 HYE.out
      refine bodyPost_ret (v := .tuple #[.agg #[.int .i64 srs, .bool hl, .bool true, .bool he, .bool hx.no, .int .i64 hx.lx, .int .i64 hx.ly, .int .i64 hx.hx, .int .i64 hx.hy], .agg #[.int .i64 k0', .slice B1 m1 cp1, .slice B2 m2 cp2], .int .i64 0]) (by simp [results, Tryd.results46, go_sem, Act.put, q0, q1, q2, q3, q4, q5, q6, q7, q8, p0, p1, p2]) (by simp [Act.put]) ⟨k0', B1, m1, cp1, B2, m2, cp2, rfl, Lib.hid (Kd.M_below (d := KW) HME.out (Bel.drew wE)), Lib.hid (bthen HBE.out (Bel.drew wE))⟩
set_option maxHeartbeats 4000000 in
set_option maxRecDepth 100000 in
theorem open_nk (w : World) (A : Option Addr) (c : Nat) (l : List Int) (h : CB w A l) (hc : l.length ≤ c) (hb : bytesOk l) {srs : Int} {hl he : Bool} {hx : MBox.Bx} {lo : Bool} {b : MBox.Bx} {n : Nat} {s : Sh} (hp : peekS l = .ok ⟨srs, hl, false, he, hx⟩ n) (hr : readS (l.drop n) = (s, 0)) (hbx : boxOf s.flat = b) (hlo : decide ((l.drop n).headD 0 = 1) = lo) (hlen : l.length < 100000000000) (hGl : Gl w) (hs : sameH ⟨srs, hl, false, he, hx⟩ (wantS ⟨srs, hl, false, he, hx⟩ lo b) = true) :
    Calls Tryd.prog 46 #[.slice A l.length c] w fun ex w' => ∃ k0 B1 m1 e1 B2 m2 e2, ex = .returned (.tuple #[.agg #[.int .i64 srs, .bool hl, .bool false, .bool he, .bool hx.no, .int .i64 hx.lx, .int .i64 hx.ly, .int .i64 hx.hx, .int .i64 hx.hy], .agg #[.int .i64 k0, .slice B1 m1 e1, .slice B2 m2 e2], .int .i64 0]) ∧ Hid (KW.M w' w.heap.size (fun _ => True) s [.int .i64 k0, .slice B1 m1 e1, .slice B2 m2 e2]) ∧ Hid (Bel w w') := by
  have HC := Lib.hid h
  have HCN := Lib.hid hc
  have HBY := Lib.hid hb
  have HPK : Hid (∀ W, Bel w W → Calls Tryd.prog 77 #[.slice A l.length c] W fun ex w' => ex = .returned (.tuple #[.agg #[.int .i64 srs, .bool hl, .bool false, .bool he, .bool hx.no, .int .i64 hx.lx, .int .i64 hx.ly, .int .i64 hx.hx, .int .i64 hx.hy], .int .i64 n, .int .i64 0]) ∧ Bel W w') := Lib.hid (fun W hh => by
    have := peek_calls W A c l (h.below hh) hc hb
    rw [hp] at this
    exact this)
  obtain ⟨hn1, hn2, hn3⟩ := peek_n hp
  obtain ⟨ad, hA, hcell⟩ := h.at_ 0 (by omega)
  subst hA
  obtain ⟨bk, off, rfl, hlt⟩ := add_none hcell
  have hm := h.2.1
  have hDT := fun W (hh : Bel w W) => (h.below hh).drop n c (by omega) hc
  obtain ⟨t, ht⟩ : ∃ t, l.length = t := ⟨_, rfl⟩
  have hTl : (l.drop n).length = t - n := by rw [List.length_drop, ht]
  have hbT : bytesOk (l.drop n) := bytesOk_drop hb n
  obtain ⟨T, hT⟩ : ∃ T, l.drop n = T := ⟨_, rfl⟩
  rw [hT] at hTl hbT hDT hr
  rw [ht] at HPK HCN hm hn1 ⊢
  have hnt : (n : Int) ≤ (t : Int) := by omega
  have hn0 : (0 : Int) ≤ (n : Int) := by omega
  have hct := HCN.out
  rw [ht] at hlen
  rw [hT] at hlo
  have HX : ∃ x T', T = x :: T' := by
    cases T with
    | nil =>
      have h8 : (readS []).2 = 8 := by rfl
      rw [hr] at h8
      cases h8
    | cons x T' => exact ⟨x, T', rfl⟩
  obtain ⟨x, T', rfl⟩ := HX
  have hxb := hbT x (by simp)
  have hlx : decide (x = 1) = lo := hlo
  obtain ⟨lo2, hlo2⟩ : ∃ v, decide (x ≤ 1) = v := ⟨_, rfl⟩
  have htn : ¬ c = n := by simp only [List.length_cons] at hTl; omega
  have hz : ¬ c - n = 0 := by omega
  have hA2 : (if c = n then (some (⟨bk, off, none⟩ : Addr)) else (some (⟨bk, off, none⟩ : Addr)).map (fun x => x.add n)) = some ⟨bk, off + n, none⟩ := by rw [if_neg htn]; simp [add_mid]
  have HRD : Hid (∀ W, Bel w W → Gl w → Calls Tryd.prog 44 #[.slice (some ⟨bk, off + n, none⟩) (t - n) (c - n)] W fun ex w' => ∃ k0 B1 m1 e1 B2 m2 e2, ex = .returned (.tuple #[.agg #[.int .i64 k0, .slice B1 m1 e1, .slice B2 m2 e2], .int .i64 0]) ∧ Hid (KW.M w' W.heap.size (fun _ => True) s [.int .i64 k0, .slice B1 m1 e1, .slice B2 m2 e2]) ∧ Hid (Bel W w')) := Lib.hid (fun W hh hg => by
    have h9 := hDT W hh
    rw [hA2] at h9
    have := read_calls W (some ⟨bk, off + n, none⟩) (c - n) (x :: T') h9 hbT (by rw [hTl]; omega) (by rw [hTl]; omega) (hg.below hh hg.2.2)
    rw [hTl, hr] at this
    exact this)
  have HOR : Hid (∀ W, Bel w W → Calls Tryd.prog 45 #[.slice (some ⟨bk, off + n, none⟩) (t - n) (c - n)] W fun ex w' => ex = .returned (.tuple #[.bool lo, .bool lo2]) ∧ W = w') := Lib.hid (fun W hh => by
    have h9 := hDT W hh
    rw [hA2] at h9
    have := order_any W (some ⟨bk, off + n, none⟩) (c - n) x T' h9 hxb
    rw [hTl, hlx, hlo2] at this
    exact this)
  have HGL := Lib.hid hGl
  have HBX := Lib.hid hbx
  have HQ : Hid (∀ W, (binOp .neq 69 (.agg #[.int .i64 srs, .bool hl, .bool false, .bool he, .bool hx.no, .int .i64 hx.lx, .int .i64 hx.ly, .int .i64 hx.hx, .int .i64 hx.hy]) (.agg #[.int .i64 srs, .bool lo, .bool false, .bool b.no, .bool true, .int .i64 0, .int .i64 0, .int .i64 0, .int .i64 0])).run Tryd.prog W = .ok (.bool false) W) := Lib.hid (by
    intro W
    have hq := eqH _ _ _ _ hx noneB (a0 := srs) (b0 := srs) (a1 := hl) (b1 := lo) (a2 := false) (b2 := false) (a3 := he) (b3 := b.no) rfl rfl rfl rfl W
    have hs' : ((srs == srs) && ((hl == lo) && ((false == false) && ((he == b.no) && MBox.same hx noneB)))) = true := hs
    rw [hs'] at hq
    exact hq)
  clear hs
  clear h hb hp hcell hlt hDT hbT hT hTl hr hc hGl ht hA2 hlo2 hlx hlo hxb hbx htn
  have HZ := Lib.hid ((Blk.new w #[.int .i64 0, .bool false, .bool false, .bool false, .bool false, .int .i64 0, .int .i64 0, .int .i64 0, .int .i64 0] 69).alloc (.cells #[.int .i64 0, .slice none 0 0, .slice none 0 0] 25))
  have HY := Lib.hid (Blk.new_at (W := w.alloc (.cells #[.int .i64 0, .bool false, .bool false, .bool false, .bool false, .int .i64 0, .int .i64 0, .int .i64 0, .int .i64 0] 69)) (g := w.heap.size + 1) (by simp) #[.int .i64 0, .slice none 0 0, .slice none 0 0] 25)
  have HB0 : Hid (Bel w ((w.alloc (.cells #[.int .i64 0, .bool false, .bool false, .bool false, .bool false, .int .i64 0, .int .i64 0, .int .i64 0, .int .i64 0] 69)).alloc (.cells #[.int .i64 0, .slice none 0 0, .slice none 0 0] 25))) := Lib.hid (by repeat (first | exact Below.refl _ _ | refine Below.alloc ?_ (by simp <;> omega) _))
  go_enter Tryd.func46, Tryd.ntmps46
  go_upto_region 1 with (fail)
  obtain ⟨w1, hW⟩ : ∃ X, ((w.alloc (.cells #[.int .i64 0, .bool false, .bool false, .bool false, .bool false, .int .i64 0, .int .i64 0, .int .i64 0, .int .i64 0] 69)).alloc (.cells #[.int .i64 0, .slice none 0 0, .slice none 0 0] 25)) = X := ⟨_, rfl⟩
  rw [hW] at HZ HY HB0 ⊢
  clear hW
  obtain ⟨gr, hgr⟩ : ∃ x, w.heap.size = x := ⟨_, rfl⟩
  have HGR := Lib.hid hgr
  rw [hgr] at HZ HY ⊢
  obtain ⟨gs, hgs⟩ : ∃ x, gr + 1 = x := ⟨_, rfl⟩
  have HGS := Lib.hid hgs
  rw [hgs] at HY ⊢
  clear hgr hgs
  go_upto_region 2 with (go_at_call 77; refine (HPK.out w1 HB0.out).mono ?_; rintro e w2 ⟨rfl, b2⟩; have HB2 := Lib.hid b2; clear b2)
  have X := Blk.new w2 #[.int .i64 srs, .bool hl, .bool false, .bool he, .bool hx.no, .int .i64 hx.lx, .int .i64 hx.ly, .int .i64 hx.hx, .int .i64 hx.hy] 69
  have HB3 : Hid (Bel w2 (w2.alloc (.cells #[.int .i64 srs, .bool hl, .bool false, .bool he, .bool hx.no, .int .i64 hx.lx, .int .i64 hx.ly, .int .i64 hx.hx, .int .i64 hx.hy] 69))) := Lib.hid ((Bel.refl w2).alloc (Nat.le_refl _) _)
  obtain ⟨w3, hW⟩ : ∃ X, w2.alloc (.cells #[.int .i64 srs, .bool hl, .bool false, .bool he, .bool hx.no, .int .i64 hx.lx, .int .i64 hx.ly, .int .i64 hx.hx, .int .i64 hx.hy] 69) = X := ⟨_, rfl⟩
  rw [hW] at X HB3 ⊢
  clear hW
  obtain ⟨gh, hgh⟩ : ∃ x, w2.heap.size = x := ⟨_, rfl⟩
  rw [hgh] at X ⊢
  have HGH : Hid (gr < gh ∧ gs < gh) := Lib.hid ⟨by have := (Blk.bel HZ.out HB2.out).lt; omega, by have := (Blk.bel HY.out HB2.out).lt; omega⟩
  clear hgh
  have B3 := Lib.hid (bthen (bthen HB0.out HB2.out) HB3.out)
  have Z3 := Lib.hid (Blk.bel HZ.out (bthen HB2.out HB3.out))
  have Y3 := Lib.hid (Blk.bel HY.out (bthen HB2.out HB3.out))
  have X3 := Lib.hid X
  clear X
  go_upto_region 5 with (go_at_call 44; refine (HRD.out w3 B3.out HGL.out).mono ?_; rintro e w4 ⟨k0', B1, m1, cp1, B2, m2, cp2, rfl, hM, b4⟩)
  have X5 := Blk.new w4 #[.int .i64 k0', .slice B1 m1 cp1, .slice B2 m2 cp2] 25
  have HB5 : Hid (Bel w4 (w4.alloc (.cells #[.int .i64 k0', .slice B1 m1 cp1, .slice B2 m2 cp2] 25))) := Lib.hid ((Bel.refl w4).alloc (Nat.le_refl _) _)
  obtain ⟨w5, hW⟩ : ∃ X, w4.alloc (.cells #[.int .i64 k0', .slice B1 m1 cp1, .slice B2 m2 cp2] 25) = X := ⟨_, rfl⟩
  rw [hW] at X5 HB5 ⊢
  clear hW
  obtain ⟨gx, hgx⟩ : ∃ x, w4.heap.size = x := ⟨_, rfl⟩
  rw [hgx] at X5 ⊢
  have HNG : Hid (gr < gx ∧ gs < gx) := Lib.hid (by have h1 := (Blk.bel Z3.out b4.out).lt; have h2 := (Blk.bel Y3.out b4.out).lt; constructor <;> omega)
  clear hgx
  have HB35 := Lib.hid (bthen b4.out HB5.out)
  have B5 := Lib.hid (bthen B3.out HB35.out)
  have Z5 := Lib.hid (Blk.bel Z3.out HB35.out)
  have Y5 := Lib.hid (Blk.bel Y3.out HB35.out)
  have XH5 := Lib.hid (Blk.bel X3.out HB35.out)
  have M5 := Lib.hid (Kd.M_below (d := KW) hM.out HB5.out)
  have HX5 := Lib.hid X5
  have HOF : Hid (Calls Tryd.prog 64 #[.agg #[.int .i64 k0', .slice B1 m1 cp1, .slice B2 m2 cp2]] w5 fun e w' => e = .returned (.agg #[.bool b.no, .int .i64 b.lx, .int .i64 b.ly, .int .i64 b.hx, .int .i64 b.hy]) ∧ Bel w5 w') := Lib.hid (by
    obtain ⟨dd, hm⟩ := M5.out
    have := boxOf_calls w5 (.int .i64 k0', .slice B1 m1 cp1, .slice B2 m2 cp2) dd s.flat (fun k hk => ShB.isSh hk dd (MW.shB (c := (.int .i64 k0', .slice B1 m1 cp1, .slice B2 m2 cp2)) hm))
    rw [HBX.out] at this
    exact this)
  obtain ⟨x0, x1, x2⟩ := Blk.cells3 X5
  clear X5
  go_upto_region 9 with (first
    | (go_at_call 64; refine (HOF.out).mono ?_; rintro e w6 ⟨rfl, b6⟩; have HB6 := Lib.hid b6; clear b6)
    | (go_at_call 45; refine (HOR.out w5 B5.out).mono ?_; rintro e w9 ⟨rfl, rfl⟩))
  have A7 := Blk.new w6 #[.bool b.no, .int .i64 b.lx, .int .i64 b.ly, .int .i64 b.hx, .int .i64 b.hy] 67
  have HB7 : Hid (Bel w6 (w6.alloc (.cells #[.bool b.no, .int .i64 b.lx, .int .i64 b.ly, .int .i64 b.hx, .int .i64 b.hy] 67))) := Lib.hid ((Bel.refl w6).alloc (Nat.le_refl _) _)
  obtain ⟨w7, hW⟩ : ∃ X, w6.alloc (.cells #[.bool b.no, .int .i64 b.lx, .int .i64 b.ly, .int .i64 b.hx, .int .i64 b.hy] 67) = X := ⟨_, rfl⟩
  rw [hW] at A7 HB7 ⊢
  clear hW x0 x1 x2
  obtain ⟨ga, hga⟩ : ∃ x, w6.heap.size = x := ⟨_, rfl⟩
  rw [hga] at A7 ⊢
  clear hga
  have HB57 := Lib.hid (bthen HB6.out HB7.out)
  have B7 := Lib.hid (bthen B5.out HB57.out)
  have Z7 := Lib.hid (Blk.bel Z5.out HB57.out)
  have Y7 := Lib.hid (Blk.bel Y5.out HB57.out)
  have XH7 := Lib.hid (Blk.bel XH5.out HB57.out)
  have GX7 := Lib.hid (Blk.bel HX5.out HB57.out)
  have HA7 := Lib.hid A7
  have M7 := Lib.hid (Kd.M_below (d := KW) M5.out HB57.out)
  clear A7
  have e0 : w7.cell? ⟨gh, 0, none⟩ = some (.int .i64 srs) := XH7.out.cell 0 rfl
  have e2 : w7.cell? ⟨gh, 2, none⟩ = some (.bool false) := XH7.out.cell 2 rfl
  have e3 : w7.cell? ⟨ga, 0, none⟩ = some (.bool b.no) := HA7.out.cell 0 rfl
  have hgh7 : gh < w7.heap.size := XH7.out.lt
  have hga7 : ga < w7.heap.size := HA7.out.lt
  go_cut [12] from 45 (fun p W' => ∃ gw, p = .pointer (some ⟨gw, 0, none⟩) ∧ Hid (w7.heap.size ≤ gw) ∧ Hid (Bel w7 W') ∧ Hid (Blk W' gw #[.int .i64 srs, .bool lo, .bool false, .bool b.no, .bool true, .int .i64 0, .int .i64 0, .int .i64 0, .int .i64 0] 69))
  case first =>
    clear e0 e2 e3 hgh7 hga7
    refine Reg.region_gen (P := Tryd.prog) (Ext := fun i W W' => ∀ g, HA w7.heap.size W g → HA w7.heap.size W' g) (R := fun i v W => match i with
        | 0 => v = .pointer (some ⟨gh, 0, none⟩)
        | 1 => v = .int .i64 srs
        | 2 => v = .bool lo
        | 3 => v = .pointer (some ⟨gh, 2, none⟩)
        | 4 => v = .bool false
        | 5 => v = .pointer (some ⟨ga, 0, none⟩)
        | 6 => v = .bool b.no
        | 7 => v = .agg #[.bool true, .int .i64 0, .int .i64 0, .int .i64 0, .int .i64 0]
        | 8 => v = .agg #[.int .i64 srs, .bool lo, .bool false, .bool b.no, .bool true, .int .i64 0, .int .i64 0, .int .i64 0, .int .i64 0]
        | 9 => ∃ g, v = .pointer (some ⟨g, 0, none⟩) ∧ HA w7.heap.size W g
        | 10 => True
        | _ => True) [] (fun m W => E9 w7 #[.int .i64 srs, .bool lo, .bool false, .bool b.no, .bool true, .int .i64 0, .int .i64 0, .int .i64 0, .int .i64 0] m W) rfl (by kernel_rfl) (by kernel_rfl) (E9.start w7 _) (fun i W _ h => h) (by intro i j v W W' hij hk hr hx h; split at h <;> first | exact h | (obtain ⟨g, h1, h2⟩ := h; exact ⟨g, h1, hx g h2⟩)) ?_ ?_
    · intro i oi hoi a W m hW hmi hpre need old
      match i, hoi with
      | 0, hoi =>
        simp only [List.getElem?_toArray, List.getElem?_cons_succ, List.getElem?_cons_zero, Option.some.injEq] at hoi
        subst hoi
        refine Reg.ob2_plain rfl ?_
        have e5 : a.eval (.tmp 5) = .pointer (some ⟨gh, 0, none⟩) := old 5 (by kernel_rfl)
        refine Reg.wp_val (W' := W) (v := .pointer (some ⟨gh, 0, none⟩)) (by simp only [execOp, e5, Reg.eval_const, resolve, invoke, builtin, List.map_toArray, List.map_cons, List.map_nil, Option.map_some, Option.map_none]; (first | rfl | go_simp | (go_simp; rfl))) ⟨_, rfl, (fun _ h => h), rfl, hW⟩
      | 1, hoi =>
        simp only [List.getElem?_toArray, List.getElem?_cons_succ, List.getElem?_cons_zero, Option.some.injEq] at hoi
        subst hoi
        refine Reg.ob2_plain rfl ?_
        have e45 : a.eval (.tmp 45) = .pointer (some ⟨gh, 0, none⟩) := need 0 _ 45 rfl rfl (by kernel_rfl) (by kernel_rfl)
        have hx := Blk.cell (Blk.bel XH7.out hW.1) 0 rfl
        refine Reg.wp_val (W' := W) (v := .int .i64 srs) (by simp only [execOp, e45, Reg.eval_const, resolve, invoke, builtin, List.map_toArray, List.map_cons, List.map_nil, Option.map_some, Option.map_none]; (first | rfl | go_simp | (go_simp; rfl))) ⟨_, rfl, (fun _ h => h), rfl, hW⟩
      | 2, hoi =>
        simp only [List.getElem?_toArray, List.getElem?_cons_succ, List.getElem?_cons_zero, Option.some.injEq] at hoi
        subst hoi
        refine Reg.ob2_plain rfl ?_
        have e9 : a.eval (.tmp 9) = .bool lo := old 9 (by kernel_rfl)
        refine Reg.wp_val (W' := W) (v := _) (by simp only [execOp, e9, Reg.eval_const]; rfl) ⟨_, rfl, (fun _ h => h), rfl, hW⟩
      | 3, hoi =>
        simp only [List.getElem?_toArray, List.getElem?_cons_succ, List.getElem?_cons_zero, Option.some.injEq] at hoi
        subst hoi
        refine Reg.ob2_plain rfl ?_
        have e5 : a.eval (.tmp 5) = .pointer (some ⟨gh, 0, none⟩) := old 5 (by kernel_rfl)
        refine Reg.wp_val (W' := W) (v := .pointer (some ⟨gh, 2, none⟩)) (by simp only [execOp, e5, Reg.eval_const, resolve, invoke, builtin, List.map_toArray, List.map_cons, List.map_nil, Option.map_some, Option.map_none]; (first | rfl | go_simp | (go_simp; rfl))) ⟨_, rfl, (fun _ h => h), rfl, hW⟩
      | 4, hoi =>
        simp only [List.getElem?_toArray, List.getElem?_cons_succ, List.getElem?_cons_zero, Option.some.injEq] at hoi
        subst hoi
        refine Reg.ob2_plain rfl ?_
        have e48 : a.eval (.tmp 48) = .pointer (some ⟨gh, 2, none⟩) := need 3 _ 48 rfl rfl (by kernel_rfl) (by kernel_rfl)
        have hx := Blk.cell (Blk.bel XH7.out hW.1) 2 rfl
        refine Reg.wp_val (W' := W) (v := .bool false) (by simp only [execOp, e48, Reg.eval_const, resolve, invoke, builtin, List.map_toArray, List.map_cons, List.map_nil, Option.map_some, Option.map_none]; (first | rfl | go_simp | (go_simp; rfl))) ⟨_, rfl, (fun _ h => h), rfl, hW⟩
      | 5, hoi =>
        simp only [List.getElem?_toArray, List.getElem?_cons_succ, List.getElem?_cons_zero, Option.some.injEq] at hoi
        subst hoi
        refine Reg.ob2_plain rfl ?_
        have e11 : a.eval (.tmp 11) = .pointer (some ⟨ga, 0, none⟩) := old 11 (by kernel_rfl)
        refine Reg.wp_val (W' := W) (v := .pointer (some ⟨ga, 0, none⟩)) (by simp only [execOp, e11, Reg.eval_const, resolve, invoke, builtin, List.map_toArray, List.map_cons, List.map_nil, Option.map_some, Option.map_none]; (first | rfl | go_simp | (go_simp; rfl))) ⟨_, rfl, (fun _ h => h), rfl, hW⟩
      | 6, hoi =>
        simp only [List.getElem?_toArray, List.getElem?_cons_succ, List.getElem?_cons_zero, Option.some.injEq] at hoi
        subst hoi
        refine Reg.ob2_plain rfl ?_
        have e50 : a.eval (.tmp 50) = .pointer (some ⟨ga, 0, none⟩) := need 5 _ 50 rfl rfl (by kernel_rfl) (by kernel_rfl)
        have hx := Blk.cell (Blk.bel HA7.out hW.1) 0 rfl
        refine Reg.wp_val (W' := W) (v := .bool b.no) (by simp only [execOp, e50, Reg.eval_const, resolve, invoke, builtin, List.map_toArray, List.map_cons, List.map_nil, Option.map_some, Option.map_none]; (first | rfl | go_simp | (go_simp; rfl))) ⟨_, rfl, (fun _ h => h), rfl, hW⟩
      | 7, hoi =>
        simp only [List.getElem?_toArray, List.getElem?_cons_succ, List.getElem?_cons_zero, Option.some.injEq] at hoi
        subst hoi
        refine Reg.ob2_plain rfl ?_
        refine Reg.wp_call (f := 78) (args := #[]) (by simp only [execOp, Reg.eval_const, resolve, invoke, List.map_toArray, List.map_cons, List.map_nil]; go_simp) ?_
        refine (none_exact W).mono ?_
        rintro e W' ⟨rfl, hb, hn⟩; exact ⟨_, rfl, _, rfl, (fun _ h => HA.bel h hb), rfl, E9.bel hW hb hn⟩
      | 8, hoi =>
        simp only [List.getElem?_toArray, List.getElem?_cons_succ, List.getElem?_cons_zero, Option.some.injEq] at hoi
        subst hoi
        refine Reg.ob2_plain rfl ?_
        have e46 : a.eval (.tmp 46) = .int .i64 srs := need 1 _ 46 rfl rfl (by kernel_rfl) (by kernel_rfl)
        have e47 : a.eval (.tmp 47) = .bool lo := need 2 _ 47 rfl rfl (by kernel_rfl) (by kernel_rfl)
        have e49 : a.eval (.tmp 49) = .bool false := need 4 _ 49 rfl rfl (by kernel_rfl) (by kernel_rfl)
        have e51 : a.eval (.tmp 51) = .bool b.no := need 6 _ 51 rfl rfl (by kernel_rfl) (by kernel_rfl)
        have e52 : a.eval (.tmp 52) = .agg #[.bool true, .int .i64 0, .int .i64 0, .int .i64 0, .int .i64 0] := need 7 _ 52 rfl rfl (by kernel_rfl) (by kernel_rfl)
        refine Reg.wp_val (W' := W) (v := .agg #[.int .i64 srs, .bool lo, .bool false, .bool b.no, .bool true, .int .i64 0, .int .i64 0, .int .i64 0, .int .i64 0]) (by simp only [execOp, e46, e47, e49, e51, e52, Reg.eval_const, resolve, invoke, builtin, List.map_toArray, List.map_cons, List.map_nil, Option.map_some, Option.map_none]; (first | rfl | go_simp | (go_simp; rfl))) ⟨_, rfl, (fun _ h => h), rfl, hW⟩
      | 9, hoi =>
        simp only [List.getElem?_toArray, List.getElem?_cons_succ, List.getElem?_cons_zero, Option.some.injEq] at hoi
        subst hoi
        refine Reg.ob2_plain rfl ?_
        refine Reg.wp_val (W' := W.alloc (.cells #[.int .i64 0, .bool false, .bool false, .bool false, .bool false, .int .i64 0, .int .i64 0, .int .i64 0, .int .i64 0] 69)) (v := .pointer (some ⟨W.heap.size, 0, none⟩)) (by simp only [execOp]; go_simp) ⟨_, rfl, (fun _ h => HA.bel h ((Bel.refl W).alloc (Nat.le_refl _) _)), ⟨W.heap.size, rfl, hW.1.size, _, Blk.new W _ _⟩, E9.make hW hmi⟩
      | 10, hoi =>
        simp only [List.getElem?_toArray, List.getElem?_cons_succ, List.getElem?_cons_zero, Option.some.injEq] at hoi
        subst hoi
        refine Reg.ob2_plain rfl ?_
        have r12 := need 9 _ 12 rfl rfl (by kernel_rfl) (by kernel_rfl)
        simp only at r12
        obtain ⟨x12, e12⟩ : ∃ x, a.eval (.tmp 12) = x := ⟨_, rfl⟩
        rw [← Reg.eval_tmp, e12] at r12
        have e53 : a.eval (.tmp 53) = .agg #[.int .i64 srs, .bool lo, .bool false, .bool b.no, .bool true, .int .i64 0, .int .i64 0, .int .i64 0, .int .i64 0] := need 8 _ 53 rfl rfl (by kernel_rfl) (by kernel_rfl)
        obtain ⟨g, hx12, hha⟩ := r12
        subst hx12
        have hB := E9.blk hW (hpre 9 (by kernel_rfl)) hmi hha
        obtain ⟨z0, z1, z2, z3, z4, z5, z6, z7, z8⟩ := Blk.cells9 hB
        have k0 := hB.froz 0; have k1 := hB.froz 1; have k2 := hB.froz 2; have k3 := hB.froz 3; have k4 := hB.froz 4; have k5 := hB.froz 5; have k6 := hB.froz 6; have k7 := hB.froz 7; have k8 := hB.froz 8
        refine Reg.wp_skip (W' := K.set9 W g (.int .i64 srs) (.bool lo) (.bool false) (.bool b.no) (.bool true) (.int .i64 0) (.int .i64 0) (.int .i64 0) (.int .i64 0)) (by simp only [execOp, e12, e53, Reg.eval_const]; go_simp; rfl) ⟨_, rfl, (fun _ h => HA.set9 h hha.1), trivial, E9.put hW (hpre 9 (by kernel_rfl)) hmi hha⟩
      | n + 11, hoi => simp at hoi
    · intro a w9 m hW hall hsize hdef got same did
      have ha := Reg.act_of [45, 46, 47, 48, 49, 50, 51, 52, 53, 12] hsize hdef same (by kernel_rfl)
      simp only [List.foldl_cons, List.foldl_nil] at ha
      generalize a.tmps.getD 45 undef = y45 at ha
      generalize a.tmps.getD 46 undef = y46 at ha
      generalize a.tmps.getD 47 undef = y47 at ha
      generalize a.tmps.getD 48 undef = y48 at ha
      generalize a.tmps.getD 49 undef = y49 at ha
      generalize a.tmps.getD 50 undef = y50 at ha
      generalize a.tmps.getD 51 undef = y51 at ha
      generalize a.tmps.getD 52 undef = y52 at ha
      generalize a.tmps.getD 53 undef = y53 at ha
      have k12 := got 9 _ 12 rfl rfl (by kernel_rfl)
      simp only at k12
      generalize a.tmps.getD 12 undef = y12 at ha k12
      clear got same hsize hdef
      subst ha
      simp only [List.setIfInBounds_toArray, List.set_cons_zero, List.set_cons_succ]
      obtain ⟨g0, q1, q2⟩ := k12
      subst q1
      have q3 := hW.2.2.2 (hall 9 (by decide))
      obtain ⟨g1, q4, q5, q6⟩ := q3
      rw [if_pos (hall 10 (by decide))] at q5
      rw [← q6 g0 q2] at q4 q5
      have HW9 := Lib.hid hW.1
      have HQ5 := Lib.hid q5
      clear hW hall did q2 q5 q6
      first | go_wp2 | skip
      go_meet
      exact ⟨g0, rfl, Lib.hid q4, Lib.hid HW9.out, Lib.hid HQ5.out⟩
  case rest =>
    obtain ⟨gw, rfl, HGW, HB9, GW9⟩ := hcut
    clear e0 e2 e3 hgh7 hga7
    have XH9 := Lib.hid (Blk.bel XH7.out HB9.out)
    have HA9 := Lib.hid (Blk.bel HA7.out HB9.out)
    have B9 := Lib.hid (bthen B7.out HB9.out)
    have HNE : Hid (gr < gh ∧ gs < gh ∧ gh < w7.heap.size ∧ gx < w7.heap.size ∧ w7.heap.size ≤ gw) := Lib.hid ⟨HGH.out.1, HGH.out.2, XH7.out.lt, GX7.out.lt, HGW.out⟩
    obtain ⟨e0, e1, e2, e3, e4, e5, e6, e7, e8⟩ := Blk.cells9 XH9.out
    have WG := GW9.out
    have B10 := B9
    have B710 := HB9
    go_upto_region 12 with (fail)
    clear e0 e1 e2 e3 e4 e5 e6 e7 e8
    have XH10 := Lib.hid (Blk.bel XH7.out B710.out)
    have Z10 := Lib.hid (Blk.bel Z7.out B710.out)
    have Y10 := Lib.hid (Blk.bel Y7.out B710.out)
    have GX10 := Lib.hid (Blk.bel GX7.out B710.out)
    have M10 := Lib.hid (Kd.M_below (d := KW) M7.out B710.out)
    obtain ⟨e0, e1, e2, e3, e4, e5, e6, e7, e8⟩ := Blk.cells9 XH10.out
    obtain ⟨g0, g1, g2, g3, g4, g5, g6, g7, g8⟩ := Blk.cells9 WG
    have q1 := HQ.out
    go_upto_region 14 with (fail)
    clear g0 g1 g2 g3 g4 g5 g6 g7 g8 q1
    obtain ⟨g0, g1, g2⟩ := Blk.cells3 GX10.out
    obtain ⟨z0, z1, z2, z3, z4, z5, z6, z7, z8⟩ := Blk.cells9 Z10.out
    have k0 := Z10.out.froz 0; have k1 := Z10.out.froz 1; have k2 := Z10.out.froz 2; have k3 := Z10.out.froz 3; have k4 := Z10.out.froz 4; have k5 := Z10.out.froz 5; have k6 := Z10.out.froz 6; have k7 := Z10.out.froz 7; have k8 := Z10.out.froz 8
    obtain ⟨y0, y1, y2⟩ := Blk.cells3 Y10.out
    have j0 := Y10.out.froz 0; have j1 := Y10.out.froz 1; have j2 := Y10.out.froz 2
    have hne1 : ¬ gs = gr := by have := HGS.out; omega
    have hne2 : ¬ gr = gs := by have := HGS.out; omega
    have hne3 : ¬ gh = gr := by have := HNE.out; omega
    have hne4 : ¬ gh = gs := by have := HNE.out; omega
    have hne5 : ¬ gx = gr := by have := HNG.out; omega
    have hne6 : ¬ gx = gs := by have := HNG.out; omega
    go_region_law (fail)
    all_goals
      clear z0 z1 z2 z3 z4 z5 z6 z7 z8 k0 k1 k2 k3 k4 k5 k6 k7 k8 y0 y1 y2 j0 j1 j2 g0 g1 g2 e0 e1 e2 e3 e4 e5 e6 e7 e8
      have ZE := Blk.set3_ne (j := gs) (x' := .int .i64 k0') (y' := .slice B1 m1 cp1) (z' := .slice B2 m2 cp2) (Blk.set9 (a' := .int .i64 srs) (b' := .bool hl) (c' := .bool false) (d' := .bool he) (e' := .bool hx.no) (f' := .int .i64 hx.lx) (h' := .int .i64 hx.ly) (i' := .int .i64 hx.hx) (j' := .int .i64 hx.hy) Z10.out) hne2
      have YE := Blk.set3 (x' := .int .i64 k0') (y' := .slice B1 m1 cp1) (z' := .slice B2 m2 cp2) (set9_ne Y10.out hne1 (.int .i64 srs) (.bool hl) (.bool false) (.bool he) (.bool hx.no) (.int .i64 hx.lx) (.int .i64 hx.ly) (.int .i64 hx.hx) (.int .i64 hx.hy))
      have ME : KW.M ((((K.set9 wc gr (.int .i64 srs) (.bool hl) (.bool false) (.bool he) (.bool hx.no) (.int .i64 hx.lx) (.int .i64 hx.ly) (.int .i64 hx.hx) (.int .i64 hx.hy)).setCell ⟨gs, 0, none⟩ (.int .i64 k0')).setCell ⟨gs, 1, none⟩ (.slice B1 m1 cp1)).setCell ⟨gs, 2, none⟩ (.slice B2 m2 cp2)) w.heap.size (fun _ => True) s [.int .i64 k0', .slice B1 m1 cp1, .slice B2 m2 cp2] := by
        obtain ⟨dd, hm⟩ := M10.out
        have hm2 : KW.M wc w3.heap.size (fun k => w3.heap.size ≤ k) s [.int .i64 k0', .slice B1 m1 cp1, .slice B2 m2 cp2] := ⟨dd, hm.bound.mono (fun k hk => hk.2.1)⟩
        have hz3 := Z3.out.lt
        have hy3 := Y3.out.lt
        have hne7 : ∀ k, w3.heap.size ≤ k → k ≠ gr := fun k hk => by omega
        have hne8 : ∀ k, w3.heap.size ≤ k → k ≠ gs := fun k hk => by omega
        obtain ⟨d9, h9⟩ := far3 (far9 hm2 hne7 (.int .i64 srs) (.bool hl) (.bool false) (.bool he) (.bool hx.no) (.int .i64 hx.lx) (.int .i64 hx.ly) (.int .i64 hx.hx) (.int .i64 hx.hy)) hne8 (.int .i64 k0') (.slice B1 m1 cp1) (.slice B2 m2 cp2)
        exact ⟨d9, (h9.mono (fun _ _ => trivial)).lower B3.out.size⟩
      unfold K.set9 at ZE YE ME
      have HME := Lib.hid ME
      clear ME
      have HBE : Hid (Bel w ((((((((((((wc.setCell ⟨gr, 0, none⟩ (.int .i64 srs)).setCell ⟨gr, 1, none⟩ (.bool hl)).setCell ⟨gr, 2, none⟩ (.bool false)).setCell ⟨gr, 3, none⟩ (.bool he)).setCell ⟨gr, 4, none⟩ (.bool hx.no)).setCell ⟨gr, 5, none⟩ (.int .i64 hx.lx)).setCell ⟨gr, 6, none⟩ (.int .i64 hx.ly)).setCell ⟨gr, 7, none⟩ (.int .i64 hx.hx)).setCell ⟨gr, 8, none⟩ (.int .i64 hx.hy)).setCell ⟨gs, 0, none⟩ (.int .i64 k0')).setCell ⟨gs, 1, none⟩ (.slice B1 m1 cp1)).setCell ⟨gs, 2, none⟩ (.slice B2 m2 cp2))) := Lib.hid (below_set3 (below_set9 B10.out (by have := HGR.out; omega) _ _ _ _ _ _ _ _ _) (by have := HGR.out; have := HGS.out; omega) _ _ _)
      obtain ⟨wE, hE⟩ : ∃ X, ((((((((((((wc.setCell ⟨gr, 0, none⟩ (.int .i64 srs)).setCell ⟨gr, 1, none⟩ (.bool hl)).setCell ⟨gr, 2, none⟩ (.bool false)).setCell ⟨gr, 3, none⟩ (.bool he)).setCell ⟨gr, 4, none⟩ (.bool hx.no)).setCell ⟨gr, 5, none⟩ (.int .i64 hx.lx)).setCell ⟨gr, 6, none⟩ (.int .i64 hx.ly)).setCell ⟨gr, 7, none⟩ (.int .i64 hx.hx)).setCell ⟨gr, 8, none⟩ (.int .i64 hx.hy)).setCell ⟨gs, 0, none⟩ (.int .i64 k0')).setCell ⟨gs, 1, none⟩ (.slice B1 m1 cp1)).setCell ⟨gs, 2, none⟩ (.slice B2 m2 cp2)) = X := ⟨_, rfl⟩
      rw [hE] at ZE YE HME HBE ⊢
      clear hE
      have HZE := Lib.hid ZE
      have HYE := Lib.hid YE
      clear ZE YE hne1 hne2 hne3 hne4 hne5 hne6
      go_wp2
      obtain ⟨q0, q1, q2, q3, q4, q5, q6, q7, q8⟩ := Blk.cells9 HZE.out
      obtain ⟨p0, p1, p2⟩ := Blk.cells3 HYE.out
      refine bodyPost_ret (v := .tuple #[.agg #[.int .i64 srs, .bool hl, .bool false, .bool he, .bool hx.no, .int .i64 hx.lx, .int .i64 hx.ly, .int .i64 hx.hx, .int .i64 hx.hy], .agg #[.int .i64 k0', .slice B1 m1 cp1, .slice B2 m2 cp2], .int .i64 0]) (by simp [results, Tryd.results46, go_sem, Act.put, q0, q1, q2, q3, q4, q5, q6, q7, q8, p0, p1, p2]) (by simp [Act.put]) ⟨k0', B1, m1, cp1, B2, m2, cp2, rfl, Lib.hid (Kd.M_below (d := KW) HME.out (Bel.drew wE)), Lib.hid (bthen HBE.out (Bel.drew wE))⟩
end Go.Proofs.YtfknhpgelleenaaDoor.K
end
