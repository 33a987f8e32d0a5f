/- What a claim leans on, part 37, cut by a program out of the texts WOpen1 WOpen2. -/
import Derived.Handy
import Derived.IntWalk
import Derived.Test.YtfknhpgelleenaaDoorZB4
import Derived.Test.YtfknhpgelleenaaDoorZB10
import Derived.Test.YtfknhpgelleenaaDoorZB11
import Derived.Test.YtfknhpgelleenaaDoorZB12
import Derived.Test.YtfknhpgelleenaaDoorZB25
import Derived.Test.YtfknhpgelleenaaDoorZB26
import Derived.Test.YtfknhpgelleenaaDoorZB32
import Derived.Test.YtfknhpgelleenaaDoorZB36
section
namespace Go.Proofs.YtfknhpgelleenaaDoor.K
open Go Go.RowKit Go.Proofs.YtfknhpgelleenaaDoorW.PrintWords Go.Proofs.YtfknhpgelleenaaDoorW.PrintLast Go.Proofs.YtfknhpgelleenaaDoorW.PrintMore
set_option linter.unusedVariables false
set_option linter.unusedSimpArgs false
open Go.Proofs.YtfknhpgelleenaaDoor.MPeek
open Go.Proofs.YtfknhpgelleenaaDoor.MBox (Bx noneB zeroB good)
open Go.Proofs.YtfknhpgelleenaaDoor.MShape (Sh)
open Go.Proofs.YtfknhpgelleenaaDoor.MRead (readS)
/-- Order of any bytes that are not empty and begin with an order. -/
theorem order_any (w : World) (A : Option Addr) (c : Nat) (x : Int) (l : List Int) (h : CB w A (x :: l)) (hb : 0 ≤ x ∧ x < 256) :
    Calls Tryd.prog 45 #[.slice A (x :: l).length c] w fun e w' => e = .returned (.tuple #[.bool (decide (x = 1)), .bool (decide (x ≤ 1))]) ∧ w = w' := by
  obtain ⟨ad, rfl, hc⟩ := h.at_ 0 (by simp)
  obtain ⟨b, off, rfl, hlt⟩ := add_none hc
  rw [add_mid] at hc
  have hc0 : w.cell? ⟨b, off, none⟩ = some (.int .u8 x) := hc
  obtain ⟨n, hn⟩ : ∃ n, (x :: l).length = n + 1 := ⟨l.length, by simp⟩
  rw [hn]
  have hz3 : ((n : Int) + 1 == 0) = false := by simp; omega
  have hz4 : (0 : Int) < (n : Int) + 1 := by omega
  clear h hc hn hlt
  by_cases h1 : x > 1
  · have hx1 : decide (x = 1) = false := by simp; omega
    have hx2 : decide (x ≤ 1) = false := by simp; omega
    rw [hx1, hx2]
    clear hx1 hx2
    have h1' : (1 : Int) < x := h1
    go_enter Tryd.func45, Tryd.ntmps45
    go_wp2
    refine ⟨rfl, .tuple #[.bool false, .bool false], ?_, rfl, rfl⟩
    simp [results, Tryd.results45, go_sem]
  · have h1' : ¬ (1 : Int) < x := by omega
    rcases (by omega : x = 0 ∨ x = 1) with rfl | rfl
    · go_enter Tryd.func45, Tryd.ntmps45
      go_wp2
      refine ⟨rfl, .tuple #[.bool false, .bool true], ?_, by first | rfl | simp, rfl⟩
      simp [results, Tryd.results45, go_sem]
    · go_enter Tryd.func45, Tryd.ntmps45
      go_wp2
      refine ⟨rfl, .tuple #[.bool true, .bool true], ?_, by first | rfl | simp, rfl⟩
      simp [results, Tryd.results45, go_sem]
theorem set9_ne {W : World} {g j t : Nat} {cs : Array Value} (h : Blk W g cs t) (hj : ¬ g = j) (x0 x1 x2 x3 x4 x5 x6 x7 x8 : Value) : Blk (K.set9 W j x0 x1 x2 x3 x4 x5 x6 x7 x8) g cs t :=
  ((((((((h.set_ne hj x0).set_ne hj x1).set_ne hj x2).set_ne hj x3).set_ne hj x4).set_ne hj x5).set_ne hj x6).set_ne hj x7).set_ne hj x8
set_option maxHeartbeats 4000000 in
set_option maxRecDepth 100000 in
theorem open_peekbad (w : World) (A : Option Addr) (c : Nat) (l : List Int) (h : CB w A l) (hc : l.length ≤ c) (hb : bytesOk l) {ec : Int} (hp : peekS l = .bad ec) (hne : ec ≠ 0) :
    Calls Tryd.prog 46 #[.slice A l.length c] w fun ex w' => ex = .returned (.tuple #[.agg #[.int .i64 0, .bool false, .bool false, .bool false, .bool false, .int .i64 0, .int .i64 0, .int .i64 0, .int .i64 0], .agg #[.int .i64 0, .slice none 0 0, .slice none 0 0], .int .i64 ec]) ∧ Bel w w' := by
  have HC := Lib.hid h
  have HCN := Lib.hid hc
  have HBY := Lib.hid hb
  have HPK : Hid (∀ W, Bel w W → Calls Tryd.prog 77 #[.slice A l.length c] W fun ex w' => ex = .returned (.tuple #[.agg #[.int .i64 0, .bool false, .bool false, .bool false, .bool false, .int .i64 0, .int .i64 0, .int .i64 0, .int .i64 0], .int .i64 0, .int .i64 ec]) ∧ Bel W w') := Lib.hid (fun W hh => by
    have := peek_calls W A c l (h.below hh) hc hb
    rw [hp] at this
    exact this)
  have he : (ec == 0) = false := by simpa using hne
  have he2 : (ec != 0) = true := by simpa using hne
  clear h hc hb hp hne
  have HZ := Lib.hid ((Blk.new w #[.int .i64 0, .bool false, .bool false, .bool false, .bool false, .int .i64 0, .int .i64 0, .int .i64 0, .int .i64 0] 69).alloc (.cells #[.int .i64 0, .slice none 0 0, .slice none 0 0] 25))
  have HY := Lib.hid (Blk.new_at (W := w.alloc (.cells #[.int .i64 0, .bool false, .bool false, .bool false, .bool false, .int .i64 0, .int .i64 0, .int .i64 0, .int .i64 0] 69)) (g := w.heap.size + 1) (by simp) #[.int .i64 0, .slice none 0 0, .slice none 0 0] 25)
  have HB0 : Hid (Bel w ((w.alloc (.cells #[.int .i64 0, .bool false, .bool false, .bool false, .bool false, .int .i64 0, .int .i64 0, .int .i64 0, .int .i64 0] 69)).alloc (.cells #[.int .i64 0, .slice none 0 0, .slice none 0 0] 25))) := Lib.hid (by repeat (first | exact Below.refl _ _ | refine Below.alloc ?_ (by simp <;> omega) _))
  go_enter Tryd.func46, Tryd.ntmps46
  go_upto_region 1 with (fail)
  obtain ⟨w1, hW⟩ : ∃ X, ((w.alloc (.cells #[.int .i64 0, .bool false, .bool false, .bool false, .bool false, .int .i64 0, .int .i64 0, .int .i64 0, .int .i64 0] 69)).alloc (.cells #[.int .i64 0, .slice none 0 0, .slice none 0 0] 25)) = X := ⟨_, rfl⟩
  rw [hW] at HZ HY HB0 ⊢
  clear hW
  obtain ⟨gr, hgr⟩ : ∃ x, w.heap.size = x := ⟨_, rfl⟩
  have HGR := Lib.hid hgr
  rw [hgr] at HZ HY ⊢
  obtain ⟨gs, hgs⟩ : ∃ x, gr + 1 = x := ⟨_, rfl⟩
  have HGS := Lib.hid hgs
  rw [hgs] at HY ⊢
  clear hgr hgs
  go_upto_region 2 with (go_at_call 77; refine (HPK.out w1 HB0.out).mono ?_; rintro e w2 ⟨rfl, b2⟩; have HB2 := Lib.hid b2; clear b2)
  have X := Blk.new w2 #[.int .i64 0, .bool false, .bool false, .bool false, .bool false, .int .i64 0, .int .i64 0, .int .i64 0, .int .i64 0] 69
  have HB3 : Hid (Bel w2 (w2.alloc (.cells #[.int .i64 0, .bool false, .bool false, .bool false, .bool false, .int .i64 0, .int .i64 0, .int .i64 0, .int .i64 0] 69))) := Lib.hid ((Bel.refl w2).alloc (Nat.le_refl _) _)
  obtain ⟨w3, hW⟩ : ∃ X, w2.alloc (.cells #[.int .i64 0, .bool false, .bool false, .bool false, .bool false, .int .i64 0, .int .i64 0, .int .i64 0, .int .i64 0] 69) = X := ⟨_, rfl⟩
  rw [hW] at X HB3 ⊢
  clear hW
  obtain ⟨gh, hgh⟩ : ∃ x, w2.heap.size = x := ⟨_, rfl⟩
  rw [hgh] at X ⊢
  have HGH : Hid (gr < gh ∧ gs < gh) := Lib.hid ⟨by have := (Blk.bel HZ.out HB2.out).lt; omega, by have := (Blk.bel HY.out HB2.out).lt; omega⟩
  clear hgh
  have B3 := Lib.hid (bthen (bthen HB0.out HB2.out) HB3.out)
  have Z3 := Lib.hid (Blk.bel HZ.out (bthen HB2.out HB3.out))
  have Y3 := Lib.hid (Blk.bel HY.out (bthen HB2.out HB3.out))
  have X3 := Lib.hid X
  clear X
  obtain ⟨z0, z1, z2, z3, z4, z5, z6, z7, z8⟩ := Blk.cells9 Z3.out
  have k0 := Z3.out.froz 0; have k1 := Z3.out.froz 1; have k2 := Z3.out.froz 2; have k3 := Z3.out.froz 3; have k4 := Z3.out.froz 4; have k5 := Z3.out.froz 5; have k6 := Z3.out.froz 6; have k7 := Z3.out.froz 7; have k8 := Z3.out.froz 8
  obtain ⟨y0, y1, y2⟩ := Blk.cells3 Y3.out
  have j0 := Y3.out.froz 0; have j1 := Y3.out.froz 1; have j2 := Y3.out.froz 2
  have hne1 : ¬ gs = gr := by have := HGS.out; omega
  have hne2 : ¬ gr = gs := by have := HGS.out; omega
  go_wp2
  clear z0 z1 z2 z3 z4 z5 z6 z7 z8 k0 k1 k2 k3 k4 k5 k6 k7 k8 y0 y1 y2 j0 j1 j2
  have ZE := Blk.set3_ne (j := gs) (x' := .int .i64 0) (y' := .slice none 0 0) (z' := .slice none 0 0) (Blk.set9 (a' := .int .i64 0) (b' := .bool false) (c' := .bool false) (d' := .bool false) (e' := .bool false) (f' := .int .i64 0) (h' := .int .i64 0) (i' := .int .i64 0) (j' := .int .i64 0) Z3.out) hne2
  have YE := Blk.set3 (x' := .int .i64 0) (y' := .slice none 0 0) (z' := .slice none 0 0) (set9_ne Y3.out hne1 (.int .i64 0) (.bool false) (.bool false) (.bool false) (.bool false) (.int .i64 0) (.int .i64 0) (.int .i64 0) (.int .i64 0))
  unfold K.set9 at ZE YE
  obtain ⟨q0, q1, q2, q3, q4, q5, q6, q7, q8⟩ := Blk.cells9 ZE
  obtain ⟨p0, p1, p2⟩ := Blk.cells3 YE
  refine bodyPost_ret (v := .tuple #[.agg #[.int .i64 0, .bool false, .bool false, .bool false, .bool false, .int .i64 0, .int .i64 0, .int .i64 0, .int .i64 0], .agg #[.int .i64 0, .slice none 0 0, .slice none 0 0], .int .i64 ec]) (by simp [results, Tryd.results46, go_sem, Act.put, q0, q1, q2, q3, q4, q5, q6, q7, q8, p0, p1, p2]) (by simp [Act.put]) ⟨rfl, below_set3 (below_set9 B3.out (by have := HGR.out; omega) _ _ _ _ _ _ _ _ _) (by have := HGR.out; have := HGS.out; omega) _ _ _⟩
theorem peek_n {l : List Int} {hd : Hd} {n : Nat} (h : peekS l = .ok hd n) : n ≤ l.length ∧ 8 ≤ n ∧ n ≤ 40 := by
  unfold peekS at h
  split at h
  · cases h
  split at h
  · cases h
  split at h
  · injection h with e1 e2; omega
  split at h
  · cases h
  split at h
  · injection h with e1 e2; omega
  · cases h
set_option maxHeartbeats 4000000 in
set_option maxRecDepth 100000 in
theorem open_readbad (w : World) (A : Option Addr) (c : Nat) (l : List Int) (h : CB w A l) (hc : l.length ≤ c) (hb : bytesOk l) {hd : Hd} {n : Nat} (hp : peekS l = .ok hd n) {ec : Int} (hr : (readS (l.drop n)).2 = ec) (hne : ec ≠ 0) (hlen : l.length < 100000000000) (hGl : Gl w) :
    Calls Tryd.prog 46 #[.slice A l.length c] w fun ex w' => ex = .returned (.tuple #[.agg #[.int .i64 0, .bool false, .bool false, .bool false, .bool false, .int .i64 0, .int .i64 0, .int .i64 0, .int .i64 0], .agg #[.int .i64 0, .slice none 0 0, .slice none 0 0], .int .i64 ec]) ∧ Bel w w' := by
  have HC := Lib.hid h
  have HCN := Lib.hid hc
  have HBY := Lib.hid hb
  have HPK : Hid (∀ W, Bel w W → Calls Tryd.prog 77 #[.slice A l.length c] W fun ex w' => ex = .returned (.tuple #[.agg #[.int .i64 hd.srs, .bool hd.low, .bool hd.bx, .bool hd.em, .bool hd.box.no, .int .i64 hd.box.lx, .int .i64 hd.box.ly, .int .i64 hd.box.hx, .int .i64 hd.box.hy], .int .i64 n, .int .i64 0]) ∧ Bel W w') := Lib.hid (fun W hh => by
    have := peek_calls W A c l (h.below hh) hc hb
    rw [hp] at this
    exact this)
  obtain ⟨hn1, hn2, hn3⟩ := peek_n hp
  obtain ⟨ad, hA, hcell⟩ := h.at_ 0 (by omega)
  subst hA
  obtain ⟨b, off, rfl, hlt⟩ := add_none hcell
  have hm := h.2.1
  have hDT := fun W (hh : Bel w W) => (h.below hh).drop n c (by omega) hc
  obtain ⟨t, ht⟩ : ∃ t, l.length = t := ⟨_, rfl⟩
  have hTl : (l.drop n).length = t - n := by rw [List.length_drop, ht]
  have hbT : bytesOk (l.drop n) := bytesOk_drop hb n
  obtain ⟨T, hT⟩ : ∃ T, l.drop n = T := ⟨_, rfl⟩
  rw [hT] at hTl hbT hDT hr
  rw [ht] at HPK HCN hm hn1 ⊢
  have hnt : (n : Int) ≤ (t : Int) := by omega
  have hn0 : (0 : Int) ≤ (n : Int) := by omega
  have hct := HCN.out
  rw [ht] at hlen
  have he : (ec == 0) = false := by simpa using hne
  have he2 : (ec != 0) = true := by simpa using hne
  obtain ⟨A2, hA2⟩ : ∃ A2, (if c = n then (some (⟨b, off, none⟩ : Addr)) else (some (⟨b, off, none⟩ : Addr)).map (fun x => x.add n)) = A2 := ⟨_, rfl⟩
  have HRD : Hid (∀ W, Bel w W → Gl w → Calls Tryd.prog 44 #[.slice A2 (t - n) (c - n)] W fun ex w' => ∃ k0 B1 m1 e1 B2 m2 e2, ex = .returned (.tuple #[.agg #[.int .i64 k0, .slice B1 m1 e1, .slice B2 m2 e2], .int .i64 ec]) ∧ Hid (Bel W w')) := Lib.hid (fun W hh hg => by
    have h9 := hDT W hh
    rw [hA2] at h9
    have := read_calls W A2 (c - n) T h9 hbT (by rw [hTl]; omega) (by rw [hTl]; omega) (hg.below hh hg.2.2)
    rw [hTl, hr] at this
    refine this.mono ?_
    rintro ex w' ⟨k0, B1, m1, e1, B2, m2, e2, h1, h2, h3⟩
    exact ⟨k0, B1, m1, e1, B2, m2, e2, h1, h3⟩)
  have HGL := Lib.hid hGl
  clear h hb hp hne hcell hlt hDT hbT hT hTl hr hc hGl ht
  have HZ := Lib.hid ((Blk.new w #[.int .i64 0, .bool false, .bool false, .bool false, .bool false, .int .i64 0, .int .i64 0, .int .i64 0, .int .i64 0] 69).alloc (.cells #[.int .i64 0, .slice none 0 0, .slice none 0 0] 25))
  have HY := Lib.hid (Blk.new_at (W := w.alloc (.cells #[.int .i64 0, .bool false, .bool false, .bool false, .bool false, .int .i64 0, .int .i64 0, .int .i64 0, .int .i64 0] 69)) (g := w.heap.size + 1) (by simp) #[.int .i64 0, .slice none 0 0, .slice none 0 0] 25)
  have HB0 : Hid (Bel w ((w.alloc (.cells #[.int .i64 0, .bool false, .bool false, .bool false, .bool false, .int .i64 0, .int .i64 0, .int .i64 0, .int .i64 0] 69)).alloc (.cells #[.int .i64 0, .slice none 0 0, .slice none 0 0] 25))) := Lib.hid (by repeat (first | exact Below.refl _ _ | refine Below.alloc ?_ (by simp <;> omega) _))
  go_enter Tryd.func46, Tryd.ntmps46
  go_upto_region 1 with (fail)
  obtain ⟨w1, hW⟩ : ∃ X, ((w.alloc (.cells #[.int .i64 0, .bool false, .bool false, .bool false, .bool false, .int .i64 0, .int .i64 0, .int .i64 0, .int .i64 0] 69)).alloc (.cells #[.int .i64 0, .slice none 0 0, .slice none 0 0] 25)) = X := ⟨_, rfl⟩
  rw [hW] at HZ HY HB0 ⊢
  clear hW
  obtain ⟨gr, hgr⟩ : ∃ x, w.heap.size = x := ⟨_, rfl⟩
  have HGR := Lib.hid hgr
  rw [hgr] at HZ HY ⊢
  obtain ⟨gs, hgs⟩ : ∃ x, gr + 1 = x := ⟨_, rfl⟩
  have HGS := Lib.hid hgs
  rw [hgs] at HY ⊢
  clear hgr hgs
  go_upto_region 2 with (go_at_call 77; refine (HPK.out w1 HB0.out).mono ?_; rintro e w2 ⟨rfl, b2⟩; have HB2 := Lib.hid b2; clear b2)
  have X := Blk.new w2 #[.int .i64 hd.srs, .bool hd.low, .bool hd.bx, .bool hd.em, .bool hd.box.no, .int .i64 hd.box.lx, .int .i64 hd.box.ly, .int .i64 hd.box.hx, .int .i64 hd.box.hy] 69
  have HB3 : Hid (Bel w2 (w2.alloc (.cells #[.int .i64 hd.srs, .bool hd.low, .bool hd.bx, .bool hd.em, .bool hd.box.no, .int .i64 hd.box.lx, .int .i64 hd.box.ly, .int .i64 hd.box.hx, .int .i64 hd.box.hy] 69))) := Lib.hid ((Bel.refl w2).alloc (Nat.le_refl _) _)
  obtain ⟨w3, hW⟩ : ∃ X, w2.alloc (.cells #[.int .i64 hd.srs, .bool hd.low, .bool hd.bx, .bool hd.em, .bool hd.box.no, .int .i64 hd.box.lx, .int .i64 hd.box.ly, .int .i64 hd.box.hx, .int .i64 hd.box.hy] 69) = X := ⟨_, rfl⟩
  rw [hW] at X HB3 ⊢
  clear hW
  obtain ⟨gh, hgh⟩ : ∃ x, w2.heap.size = x := ⟨_, rfl⟩
  rw [hgh] at X ⊢
  have HGH : Hid (gr < gh ∧ gs < gh) := Lib.hid ⟨by have := (Blk.bel HZ.out HB2.out).lt; omega, by have := (Blk.bel HY.out HB2.out).lt; omega⟩
  clear hgh
  have B3 := Lib.hid (bthen (bthen HB0.out HB2.out) HB3.out)
  have Z3 := Lib.hid (Blk.bel HZ.out (bthen HB2.out HB3.out))
  have Y3 := Lib.hid (Blk.bel HY.out (bthen HB2.out HB3.out))
  have X3 := Lib.hid X
  clear X
  by_cases hcn : c = n
  · rw [if_pos hcn] at hA2
    subst hA2
    have htn : t = n := by omega
    subst hcn
    subst htn
    rw [Nat.sub_self] at HRD
    go_upto_region 5 with (go_at_call 44; refine (HRD.out w3 B3.out HGL.out).mono ?_; rintro e w4 ⟨k0', B1, m1, e1, B2, m2, e2, rfl, b4⟩)
    have HB5 : Hid (Bel w3 (w4.alloc (.cells #[.int .i64 k0', .slice B1 m1 e1, .slice B2 m2 e2] 25))) := Lib.hid (bthen b4.out ((Bel.refl w4).alloc (Nat.le_refl _) _))
    obtain ⟨w5, hW⟩ : ∃ X, w4.alloc (.cells #[.int .i64 k0', .slice B1 m1 e1, .slice B2 m2 e2] 25) = X := ⟨_, rfl⟩
    rw [hW] at HB5 ⊢
    clear hW
    have B5 := Lib.hid (bthen B3.out HB5.out)
    have Z5 := Lib.hid (Blk.bel Z3.out HB5.out)
    have Y5 := Lib.hid (Blk.bel Y3.out HB5.out)
    obtain ⟨z0, z1, z2, z3, z4, z5, z6, z7, z8⟩ := Blk.cells9 Z5.out
    have k0 := Z5.out.froz 0; have k1 := Z5.out.froz 1; have k2 := Z5.out.froz 2; have k3 := Z5.out.froz 3; have k4 := Z5.out.froz 4; have k5 := Z5.out.froz 5; have k6 := Z5.out.froz 6; have k7 := Z5.out.froz 7; have k8 := Z5.out.froz 8
    obtain ⟨y0, y1, y2⟩ := Blk.cells3 Y5.out
    have j0 := Y5.out.froz 0; have j1 := Y5.out.froz 1; have j2 := Y5.out.froz 2
    have hne1 : ¬ gs = gr := by have := HGS.out; omega
    have hne2 : ¬ gr = gs := by have := HGS.out; omega
    go_wp2
    clear z0 z1 z2 z3 z4 z5 z6 z7 z8 k0 k1 k2 k3 k4 k5 k6 k7 k8 y0 y1 y2 j0 j1 j2
    have ZE := Blk.set3_ne (j := gs) (x' := .int .i64 0) (y' := .slice none 0 0) (z' := .slice none 0 0) (Blk.set9 (a' := .int .i64 0) (b' := .bool false) (c' := .bool false) (d' := .bool false) (e' := .bool false) (f' := .int .i64 0) (h' := .int .i64 0) (i' := .int .i64 0) (j' := .int .i64 0) Z5.out) hne2
    have YE := Blk.set3 (x' := .int .i64 0) (y' := .slice none 0 0) (z' := .slice none 0 0) (set9_ne Y5.out hne1 (.int .i64 0) (.bool false) (.bool false) (.bool false) (.bool false) (.int .i64 0) (.int .i64 0) (.int .i64 0) (.int .i64 0))
    unfold K.set9 at ZE YE
    obtain ⟨q0, q1, q2, q3, q4, q5, q6, q7, q8⟩ := Blk.cells9 ZE
    obtain ⟨p0, p1, p2⟩ := Blk.cells3 YE
    refine bodyPost_ret (v := .tuple #[.agg #[.int .i64 0, .bool false, .bool false, .bool false, .bool false, .int .i64 0, .int .i64 0, .int .i64 0, .int .i64 0], .agg #[.int .i64 0, .slice none 0 0, .slice none 0 0], .int .i64 ec]) (by simp [results, Tryd.results46, go_sem, Act.put, q0, q1, q2, q3, q4, q5, q6, q7, q8, p0, p1, p2]) (by simp [Act.put]) ⟨rfl, below_set3 (below_set9 B5.out (by have := HGR.out; omega) _ _ _ _ _ _ _ _ _) (by have := HGR.out; have := HGS.out; omega) _ _ _⟩

  · rw [if_neg hcn] at hA2
    have hA3 : A2 = some ⟨b, off + n, none⟩ := by rw [← hA2]; simp [add_mid]
    subst hA3
    clear hA2
    have hz : ¬ c - n = 0 := by omega
    go_upto_region 5 with (go_at_call 44; refine (HRD.out w3 B3.out HGL.out).mono ?_; rintro e w4 ⟨k0', B1, m1, e1, B2, m2, e2, rfl, b4⟩)
    have HB5 : Hid (Bel w3 (w4.alloc (.cells #[.int .i64 k0', .slice B1 m1 e1, .slice B2 m2 e2] 25))) := Lib.hid (bthen b4.out ((Bel.refl w4).alloc (Nat.le_refl _) _))
    obtain ⟨w5, hW⟩ : ∃ X, w4.alloc (.cells #[.int .i64 k0', .slice B1 m1 e1, .slice B2 m2 e2] 25) = X := ⟨_, rfl⟩
    rw [hW] at HB5 ⊢
    clear hW
    have B5 := Lib.hid (bthen B3.out HB5.out)
    have Z5 := Lib.hid (Blk.bel Z3.out HB5.out)
    have Y5 := Lib.hid (Blk.bel Y3.out HB5.out)
    obtain ⟨z0, z1, z2, z3, z4, z5, z6, z7, z8⟩ := Blk.cells9 Z5.out
    have k0 := Z5.out.froz 0; have k1 := Z5.out.froz 1; have k2 := Z5.out.froz 2; have k3 := Z5.out.froz 3; have k4 := Z5.out.froz 4; have k5 := Z5.out.froz 5; have k6 := Z5.out.froz 6; have k7 := Z5.out.froz 7; have k8 := Z5.out.froz 8
    obtain ⟨y0, y1, y2⟩ := Blk.cells3 Y5.out
    have j0 := Y5.out.froz 0; have j1 := Y5.out.froz 1; have j2 := Y5.out.froz 2
    have hne1 : ¬ gs = gr := by have := HGS.out; omega
    have hne2 : ¬ gr = gs := by have := HGS.out; omega
    go_wp2
    clear z0 z1 z2 z3 z4 z5 z6 z7 z8 k0 k1 k2 k3 k4 k5 k6 k7 k8 y0 y1 y2 j0 j1 j2
    have ZE := Blk.set3_ne (j := gs) (x' := .int .i64 0) (y' := .slice none 0 0) (z' := .slice none 0 0) (Blk.set9 (a' := .int .i64 0) (b' := .bool false) (c' := .bool false) (d' := .bool false) (e' := .bool false) (f' := .int .i64 0) (h' := .int .i64 0) (i' := .int .i64 0) (j' := .int .i64 0) Z5.out) hne2
    have YE := Blk.set3 (x' := .int .i64 0) (y' := .slice none 0 0) (z' := .slice none 0 0) (set9_ne Y5.out hne1 (.int .i64 0) (.bool false) (.bool false) (.bool false) (.bool false) (.int .i64 0) (.int .i64 0) (.int .i64 0) (.int .i64 0))
    unfold K.set9 at ZE YE
    obtain ⟨q0, q1, q2, q3, q4, q5, q6, q7, q8⟩ := Blk.cells9 ZE
    obtain ⟨p0, p1, p2⟩ := Blk.cells3 YE
    refine bodyPost_ret (v := .tuple #[.agg #[.int .i64 0, .bool false, .bool false, .bool false, .bool false, .int .i64 0, .int .i64 0, .int .i64 0, .int .i64 0], .agg #[.int .i64 0, .slice none 0 0, .slice none 0 0], .int .i64 ec]) (by simp [results, Tryd.results46, go_sem, Act.put, q0, q1, q2, q3, q4, q5, q6, q7, q8, p0, p1, p2]) (by simp [Act.put]) ⟨rfl, below_set3 (below_set9 B5.out (by have := HGR.out; omega) _ _ _ _ _ _ _ _ _) (by have := HGR.out; have := HGS.out; omega) _ _ _⟩
end Go.Proofs.YtfknhpgelleenaaDoor.K
end
section
namespace Go.Proofs.YtfknhpgelleenaaDoor.K
open Go Go.RowKit Go.Proofs.YtfknhpgelleenaaDoorW.PrintWords Go.Proofs.YtfknhpgelleenaaDoorW.PrintLast Go.Proofs.YtfknhpgelleenaaDoorW.PrintMore
set_option linter.unusedVariables false
set_option linter.unusedSimpArgs false
open Go.Proofs.YtfknhpgelleenaaDoor.MPeek
open Go.Proofs.YtfknhpgelleenaaDoor.MBox (noneB zeroB good)
open Go.Proofs.YtfknhpgelleenaaDoor.MShape (Sh)
open Go.Proofs.YtfknhpgelleenaaDoor.MRead (readS)
def HT : Nat := 69
/-- Block g is a head, of those made from B on. -/
def HA (B : Nat) (W : World) (g : Nat) : Prop := B ≤ g ∧ ∃ cs, Blk W g cs 69
theorem HA.bel {B : Nat} {W W' : World} {g : Nat} (h : HA B W g) (hb : Bel W W') : HA B W' g := ⟨h.1, h.2.imp fun cs hc => hc.bel hb⟩
/-- No head is made. -/
def NoH (W W' : World) : Prop := ∀ k, W.heap.size ≤ k → ∀ cs, ¬ Blk W' k cs 69
theorem NoH.set {W W' : World} (h : NoH W W') (p : Addr) (u : Value) : NoH W (W'.setCell p u) := by
  intro k hk cs hb
  by_cases e : k = p.block
  · subst e
    unfold Blk World.setCell at hb
    simp only [Array.getElem?_modify, if_true] at hb
    cases ho : W'.heap[p.block]? with
    | none => rw [ho] at hb; cases hb
    | some o =>
      rw [ho] at hb
      cases o with
      | cells c t r =>
        simp only [Option.map_some, Option.some.injEq, Obj.cells.injEq] at hb
        obtain ⟨-, rfl, rfl⟩ := hb
        exact h _ hk c ho
      | _ => simp at hb
  · exact h k hk cs (by unfold Blk at hb ⊢; rwa [Below.heap_setCell _ _ _ _ e] at hb)
theorem NoH.alloc {W W' : World} (h : NoH W W') (cs : Array Value) (t : Nat) (ht : t ≠ 69) : NoH W (W'.alloc (.cells cs t)) := by
  intro k hk cs' hb
  by_cases e : k = W'.heap.size
  · subst e
    have := Blk.new W' cs t
    unfold Blk at this hb
    rw [this] at hb
    cases hb
    exact ht rfl
  · have hlt := Blk.lt hb
    have hlt' : k < W'.heap.size := by simp at hlt; omega
    exact h k hk cs' ((((Bel.refl W').alloc (Nat.le_refl _) (.cells cs t)).block k hlt').symm.trans hb)
theorem NoH.refl (W : World) : NoH W W := fun k hk cs hb => absurd hb.lt (by omega)
theorem HA.back {B : Nat} {W W' : World} {g : Nat} (h : HA B W' g) (hb : Bel W W') (hn : NoH W W') : HA B W g := by
  by_cases e : g < W.heap.size
  · exact ⟨h.1, h.2.imp fun cs hc => (hb.block g e).symm.trans hc⟩
  · obtain ⟨cs, hc⟩ := h.2
    exact absurd hc (hn g (by omega) cs)
set_option maxRecDepth 100000 in
theorem none_exact (w : World) : Calls Tryd.prog 78 #[] w fun e w' => e = .returned (.agg #[.bool true, .int .i64 0, .int .i64 0, .int .i64 0, .int .i64 0]) ∧ Bel w w' ∧ NoH w w' := by
  have HNH := Lib.hid (NoH.alloc (NoH.refl w) #[.bool true, .int .i64 0, .int .i64 0, .int .i64 0, .int .i64 0] 67 (by decide))
  go_enter Tryd.func78, Tryd.ntmps78
  go_wp2
  refine bodyPost_ret (v := .agg #[.bool true, .int .i64 0, .int .i64 0, .int .i64 0, .int .i64 0]) ?_ rfl ⟨rfl, by repeat (first | exact Below.refl _ _ | refine Below.drew ?_ | refine below_set (g := w.heap.size) ?_ (Nat.le_refl _) _ | refine Below.alloc ?_ (by simp <;> omega) _), by repeat (first | exact HNH.out | refine NoH.set ?_ _ _)⟩
  simp [results, Tryd.results78, go_sem]
theorem far9 {W : World} {base : Nat} {ok : Nat → Prop} {x : Sh} {cs : List Value} {g : Nat} (h : KW.M W base ok x cs) (hok : ∀ k, ok k → k ≠ g) (x0 x1 x2 x3 x4 x5 x6 x7 x8 : Value) : KW.M (K.set9 W g x0 x1 x2 x3 x4 x5 x6 x7 x8) base ok x cs :=
  Kd.M_far (d := KW) (p := ⟨g, 8, none⟩) (Kd.M_far (d := KW) (p := ⟨g, 7, none⟩) (Kd.M_far (d := KW) (p := ⟨g, 6, none⟩) (Kd.M_far (d := KW) (p := ⟨g, 5, none⟩) (Kd.M_far (d := KW) (p := ⟨g, 4, none⟩) (Kd.M_far (d := KW) (p := ⟨g, 3, none⟩) (Kd.M_far (d := KW) (p := ⟨g, 2, none⟩) (Kd.M_far (d := KW) (p := ⟨g, 1, none⟩) (Kd.M_far (d := KW) (p := ⟨g, 0, none⟩) h hok x0) hok x1) hok x2) hok x3) hok x4) hok x5) hok x6) hok x7) hok x8
theorem far3 {W : World} {base : Nat} {ok : Nat → Prop} {x : Sh} {cs : List Value} {g : Nat} (h : KW.M W base ok x cs) (hok : ∀ k, ok k → k ≠ g) (x0 x1 x2 : Value) : KW.M (((W.setCell ⟨g, 0, none⟩ x0).setCell ⟨g, 1, none⟩ x1).setCell ⟨g, 2, none⟩ x2) base ok x cs :=
  Kd.M_far (d := KW) (p := ⟨g, 2, none⟩) (Kd.M_far (d := KW) (p := ⟨g, 1, none⟩) (Kd.M_far (d := KW) (p := ⟨g, 0, none⟩) h hok x0) hok x1) hok x2
def E9 (w7 : World) (FIN : Array Value) (m : Nat → Bool) (W : World) : Prop :=
  Bel w7 W ∧ (m 10 = true → m 9 = true) ∧ (m 9 = false → ∀ g, ¬ HA w7.heap.size W g) ∧ (m 9 = true → ∃ g, w7.heap.size ≤ g ∧ Blk W g (if m 10 = true then FIN else #[.int .i64 0, .bool false, .bool false, .bool false, .bool false, .int .i64 0, .int .i64 0, .int .i64 0, .int .i64 0]) 69 ∧ ∀ g', HA w7.heap.size W g' → g' = g)
theorem E9.start (w7 : World) (FIN : Array Value) : E9 w7 FIN (fun _ => false) w7.drew :=
  ⟨Bel.drew w7, (by intro h; cases h), (by intro _ g h; obtain ⟨h1, cs, h2⟩ := h; have h3 : g < w7.heap.size := h2.lt; omega), (by intro h; cases h)⟩
theorem E9.bel {w7 W W' : World} {FIN : Array Value} {m : Nat → Bool} (h : E9 w7 FIN m W) (hb : Bel W W') (hn : NoH W W') : E9 w7 FIN m W' :=
  ⟨bthen h.1 hb, h.2.1, fun e g hg => h.2.2.1 e g (hg.back hb hn), fun e => by
    obtain ⟨g, h1, h2, h3⟩ := h.2.2.2 e
    exact ⟨g, h1, h2.bel hb, fun g' hg' => h3 g' (hg'.back hb hn)⟩⟩
theorem E9.make {w7 W : World} {FIN : Array Value} {m : Nat → Bool} (h : E9 w7 FIN m W) (hm : m 9 = false) : E9 w7 FIN (Reg.mark m 9) (W.alloc (.cells #[.int .i64 0, .bool false, .bool false, .bool false, .bool false, .int .i64 0, .int .i64 0, .int .i64 0, .int .i64 0] 69)) := by
  have h10 : m 10 = false := by
    cases e : m 10 with
    | false => rfl
    | true => have := h.2.1 e; rw [hm] at this; cases this
  have hal : Bel W (W.alloc (.cells #[.int .i64 0, .bool false, .bool false, .bool false, .bool false, .int .i64 0, .int .i64 0, .int .i64 0, .int .i64 0] 69)) := (Bel.refl W).alloc (Nat.le_refl _) _
  refine ⟨bthen h.1 hal, fun _ => rfl, (by intro e; cases e), fun _ => ⟨W.heap.size, h.1.size, ?_, fun g' hg' => ?_⟩⟩
  · have e : Reg.mark m 9 10 = false := h10
    rw [if_neg (by rw [e]; decide)]
    exact Blk.new W _ _
  · obtain ⟨h1, cs, h2⟩ := hg'
    have h3 := h2.lt
    simp at h3
    by_cases e : g' = W.heap.size
    · exact e
    · exact absurd ⟨h1, cs, (hal.block g' (by omega)).symm.trans h2⟩ (h.2.2.1 hm g')
theorem E9.blk {w7 W : World} {FIN : Array Value} {m : Nat → Bool} (h : E9 w7 FIN m W) (h9 : m 9 = true) (h10 : m 10 = false) {g : Nat} (hg : HA w7.heap.size W g) : Blk W g #[.int .i64 0, .bool false, .bool false, .bool false, .bool false, .int .i64 0, .int .i64 0, .int .i64 0, .int .i64 0] 69 := by
  obtain ⟨g', h1, h2, h3⟩ := h.2.2.2 h9
  rw [if_neg (by rw [h10]; decide), ← h3 g hg] at h2
  exact h2
theorem Blk.any9 {W : World} {j t : Nat} (g : Nat) {cs : Array Value} (h : Blk W j cs t) (x0 x1 x2 x3 x4 x5 x6 x7 x8 : Value) : ∃ cs', Blk (K.set9 W g x0 x1 x2 x3 x4 x5 x6 x7 x8) j cs' t := by
  by_cases e : j = g
  · subst e
    exact ⟨_, ((((((((h.set 0 x0).set 1 x1).set 2 x2).set 3 x3).set 4 x4).set 5 x5).set 6 x6).set 7 x7).set 8 x8⟩
  · exact ⟨cs, set9_ne h e _ _ _ _ _ _ _ _ _⟩
theorem HA.set9 {B : Nat} {W : World} {j g : Nat} (h : HA B W j) (hg : B ≤ g) {x0 x1 x2 x3 x4 x5 x6 x7 x8 : Value} : HA B (K.set9 W g x0 x1 x2 x3 x4 x5 x6 x7 x8) j := by
  obtain ⟨h1, cs, h2⟩ := h
  exact ⟨h1, h2.any9 g _ _ _ _ _ _ _ _ _⟩
theorem NoH.set9 (W : World) (g : Nat) (x0 x1 x2 x3 x4 x5 x6 x7 x8 : Value) : NoH W (K.set9 W g x0 x1 x2 x3 x4 x5 x6 x7 x8) :=
  NoH.set (NoH.set (NoH.set (NoH.set (NoH.set (NoH.set (NoH.set (NoH.set (NoH.set (NoH.refl W) _ _) _ _) _ _) _ _) _ _) _ _) _ _) _ _) _ _
theorem E9.put {w7 W : World} {m : Nat → Bool} {x0 x1 x2 x3 x4 x5 x6 x7 x8 : Value} (h : E9 w7 #[x0, x1, x2, x3, x4, x5, x6, x7, x8] m W) (h9 : m 9 = true) (h10 : m 10 = false) {g : Nat} (hg : HA w7.heap.size W g) : E9 w7 #[x0, x1, x2, x3, x4, x5, x6, x7, x8] (Reg.mark m 10) (K.set9 W g x0 x1 x2 x3 x4 x5 x6 x7 x8) := by
  refine ⟨below_set9 h.1 hg.1 _ _ _ _ _ _ _ _ _, fun _ => h9, fun e => ?_, fun _ => ⟨g, hg.1, ?_, fun g' hg' => ?_⟩⟩
  · have e' : m 9 = false := e
    rw [h9] at e'
    cases e'
  · exact Blk.set9 (h.blk h9 h10 hg)
  · obtain ⟨g0, h1, h2, h3⟩ := h.2.2.2 h9
    rw [h3 g hg]
    refine h3 g' ⟨hg'.1, ?_⟩
    have hlt : g' < W.heap.size := by
      by_cases e : g' < W.heap.size
      · exact e
      · obtain ⟨cs, hc⟩ := hg'.2
        exact absurd hc (NoH.set9 W g _ _ _ _ _ _ _ _ _ g' (by omega) cs)
    by_cases e : g' = g
    · subst e; exact hg.2
    · obtain ⟨cs, hc⟩ := hg'.2
      refine ⟨cs, ?_⟩
      unfold Blk K.set9 at hc
      rw [Below.heap_setCell _ _ _ _ (by exact e), Below.heap_setCell _ _ _ _ (by exact e), Below.heap_setCell _ _ _ _ (by exact e), Below.heap_setCell _ _ _ _ (by exact e), Below.heap_setCell _ _ _ _ (by exact e), Below.heap_setCell _ _ _ _ (by exact e), Below.heap_setCell _ _ _ _ (by exact e), Below.heap_setCell _ _ _ _ (by exact e), Below.heap_setCell _ _ _ _ (by exact e)] at hc
      exact hc
set_option maxRecDepth 100000 in
theorem eqH (s l x e : Bool) (a b : MBox.Bx) {a0 b0 : Int} {a1 b1 a2 b2 a3 b3 : Bool} (h0 : (a0 == b0) = s) (h1 : (a1 == b1) = l) (h2 : (a2 == b2) = x) (h3 : (a3 == b3) = e) (w : World) : (binOp .neq 69 (.agg #[.int .i64 a0, .bool a1, .bool a2, .bool a3, .bool a.no, .int .i64 a.lx, .int .i64 a.ly, .int .i64 a.hx, .int .i64 a.hy]) (.agg #[.int .i64 b0, .bool b1, .bool b2, .bool b3, .bool b.no, .int .i64 b.lx, .int .i64 b.ly, .int .i64 b.hx, .int .i64 b.hy])).run Tryd.prog w = .ok (.bool (!(s && (l && (x && (e && MBox.same a b)))))) w := by
  unfold binOp
  simp only [Sem.run_bind, Op.equal, Op.maxDepth]
  rw [run_equalIn_struct w (9999) 69 _ _ (by kernel_rfl) (by kernel_rfl)]
  simp only [Program.fieldsOf, Tryd.underlying69]
  have hq := eqB_in 9996 a b
  have i0 : a0 = b0 ↔ s = true := by rw [← h0]; simp
  have i1 : a1 = b1 ↔ l = true := by rw [← h1]; simp
  have i2 : a2 = b2 ↔ x = true := by rw [← h2]; simp
  have i3 : a3 = b3 ↔ e = true := by rw [← h3]; simp
  clear h0 h1 h2 h3
  cases s <;> cases l <;> cases x <;> cases e <;> simp only [iff_true, iff_false, Bool.false_eq_true] at i0 i1 i2 i3 <;> simp [Op.eqFields, go_sem, Tryd.underlying4, Tryd.underlying3, Tryd.underlying67, i0, i1, i2, i3, hq] <;> cases MBox.same a b <;> rfl
end Go.Proofs.YtfknhpgelleenaaDoor.K
end
