/- What a claim leans on, part 30, cut by a program out of the texts RD1. -/
import Derived.Handy
import Derived.Deep.RegionLaw
import Derived.IntWalk
import Derived.Test.YtfknhpgelleenaaDoorZB4
import Derived.Test.YtfknhpgelleenaaDoorZB6
import Derived.Test.YtfknhpgelleenaaDoorZB19
import Derived.Test.YtfknhpgelleenaaDoorZB28
import Derived.Test.YtfknhpgelleenaaDoorZB29
section
namespace Go.Proofs.YtfknhpgelleenaaDoor.K
open Go Go.RowKit Go.Proofs.YtfknhpgelleenaaDoorW.PrintWords Go.Proofs.YtfknhpgelleenaaDoorW.PrintLast Go.Proofs.YtfknhpgelleenaaDoorW.PrintMore
set_option linter.unusedVariables false
set_option linter.unusedSimpArgs false
open Go.Proofs.YtfknhpgelleenaaDoor.MOct (getV head)
theorem Two.trans {a b c : World} {g k : Nat} (h : Two a b g k) (h' : Two b c g k) : Two a c g k :=
  ⟨h'.1.trans h.1, h'.2.1.trans h.2.1, h'.2.2.1.trans h.2.2.1, Nat.le_trans h.2.2.2.1 h'.2.2.2.1, fun i hi hg hk => (h'.2.2.2.2 i (Nat.lt_of_lt_of_le hi h.2.2.2.1) hg hk).trans (h.2.2.2.2 i hi hg hk)⟩
theorem Two.of_bel {a b : World} (g k : Nat) (h : Bel a b) : Two a b g k := ⟨h.os, h.tape, h.output, h.size, fun i hi _ _ => h.block i hi⟩
theorem Two.of_q {a b : World} (g : Nat) {q : Nat} (h : a.grownBy b (some q)) : Two a b g q := ⟨h.os, h.tape, h.output, h.size, fun i hi _ hk => h.block i hi (fun e => hk (Option.some.inj e))⟩
theorem Two.set {a b : World} {g k i : Nat} (h : Two a b g k) (u : Value) : Two a (b.setCell ⟨g, i, none⟩ u) g k :=
  ⟨h.1, h.2.1, h.2.2.1, by simpa using h.2.2.2.1, fun j hj hg hk => (Below.heap_setCell b ⟨g, i, none⟩ u j hg).trans (h.2.2.2.2 j hj hg hk)⟩
theorem Two.blk {a b : World} {g k j t : Nat} {cs : Array Value} (h : Two a b g k) (hb : Blk a j cs t) (hg : j ≠ g) (hk : j ≠ k) : Blk b j cs t := (h.2.2.2.2 j hb.lt hg hk).trans hb
/-- wkb's reader: its block, and its source's. -/
structure Rd (W : World) (g q : Nat) (l : List Int) (se e p n : Int) : Prop where
  blk : Blk W g #[.pointer (some ⟨q, 0, none⟩), .int .i64 e, .int .i64 p, .int .i64 n] 107
  src : Src W q true l se
  ne : g ≠ q
  byt : bytesOk l
  g2 : 2 ≤ g
  q2 : 2 ≤ q
theorem Rd.bel {W W' : World} {g q : Nat} {l : List Int} {se e p n : Int} (h : Rd W g q l se e p n) (hb : Bel W W') : Rd W' g q l se e p n :=
  ⟨h.blk.bel hb, h.src.below hb, h.ne, h.byt, h.g2, h.q2⟩
theorem Rd.set {W : World} {g q : Nat} {l : List Int} {se e p n e' p' n' : Int} (h : Rd W g q l se e p n) (i : Nat) (u : Value)
    (hu : (#[Value.pointer (some ⟨q, 0, none⟩), .int .i64 e, .int .i64 p, .int .i64 n] : Array Value).setIfInBounds i u = #[.pointer (some ⟨q, 0, none⟩), .int .i64 e', .int .i64 p', .int .i64 n']) : Rd (W.setCell ⟨g, i, none⟩ u) g q l se e' p' n' := by
  have hgr : W.grownBy (W.setCell ⟨g, i, none⟩ u) (some g) := only_setCell (g := g) (p := ⟨g, i, none⟩) (World.grownBy.refl _ _) (.inl rfl) _
  refine ⟨?_, h.src.only h.src.lt h.ne.symm hgr (fun A hA => hA.only h.blk (by intro v hv x; simp at hv; rcases hv with rfl | rfl | rfl | rfl <;> simp) hgr), h.ne, h.byt, h.g2, h.q2⟩
  have := h.blk.set i u
  rw [hu] at this
  exact this
theorem Rd.setE {W : World} {g q : Nat} {l : List Int} {se e p n : Int} (h : Rd W g q l se e p n) (e' : Int) : Rd (W.setCell ⟨g, 1, none⟩ (.int .i64 e')) g q l se e' p n := h.set 1 _ rfl
theorem Rd.setP {W : World} {g q : Nat} {l : List Int} {se e p n : Int} (h : Rd W g q l se e p n) (p' : Int) : Rd (W.setCell ⟨g, 2, none⟩ (.int .i64 p')) g q l se e p' n := h.set 2 _ rfl
theorem Rd.setN {W : World} {g q : Nat} {l : List Int} {se e p n : Int} (h : Rd W g q l se e p n) (n' : Int) : Rd (W.setCell ⟨g, 3, none⟩ (.int .i64 n')) g q l se e p n' := h.set 3 _ rfl
/-- The source's step. -/
theorem Rd.src' {W W' : World} {g q : Nat} {l l' : List Int} {se se' e p n : Int} (h : Rd W g q l se e p n) (hg : W.grownBy W' (some q)) (hs : Src W' q true l' se') (hb : bytesOk l') : Rd W' g q l' se' e p n :=
  ⟨(hg.block g h.blk.lt (fun e => h.ne (Option.some.inj e))).trans h.blk, hs, h.ne, hb, h.g2, h.q2⟩
theorem Rd.two {W : World} {g q : Nat} {l : List Int} {se e p n : Int} (h : Rd W g q l se e p n) : g < W.heap.size ∧ q < W.heap.size := ⟨h.blk.lt, h.src.lt⟩
/-- The first error. -/
def er (se e : Int) : Int := if e = 0 then se else e
set_option maxHeartbeats 1000000 in
theorem ok_calls (W : World) (g q : Nat) (l : List Int) (se e p n : Int) (h : Rd W g q l se e p n) :
    Calls Tryd.prog 75 #[.pointer (some ⟨g, 0, none⟩)] W fun ex W' => ex = .returned (.bool (decide (er se e = 0))) ∧ Hid (Rd W' g q l se (er se e) p n) ∧ Hid (Two W W' g q) := by
  have H := Lib.hid h
  have c0 : W.cell? ⟨g, 0, none⟩ = some (.pointer (some ⟨q, 0, none⟩)) := h.blk.cell 0 rfl
  have c1 : W.cell? ⟨g, 1, none⟩ = some (.int .i64 e) := h.blk.cell 1 rfl
  have f1 := h.blk.froz 1
  clear h
  by_cases he : e = 0
  · subst he
    have d1 : (W.setCell ⟨g, 1, none⟩ (.int .i64 se)).cell? ⟨g, 1, none⟩ = some (.int .i64 se) := (H.out.setE se).blk.cell 1 rfl
    have HE : Hid (er se 0 = se) := Lib.hid rfl
    rw [HE.out]
    go_enter Tryd.func75, Tryd.ntmps75
    go_wp2_with (go_at_call 100; refine (Err_calls _ _ _ _ _ H.out.src).mono ?_; rintro e w0 ⟨rfl, rfl⟩)
    go_ret
    exact ⟨by by_cases h0 : se = 0 <;> simp [h0], Lib.hid (H.out.setE se), Lib.hid ((Two.refl _ _ _).set _)⟩
  · have he2 : (e == 0) = false := by simpa using he
    have HE : Hid (er se e = e) := Lib.hid (by unfold er; rw [if_neg he])
    rw [HE.out]
    have HN := Lib.hid he
    clear he
    go_enter Tryd.func75, Tryd.ntmps75
    go_wp2
    go_ret
    exact ⟨by simp [HN.out], H, Lib.hid (Two.refl _ _ _)⟩
set_option maxHeartbeats 1000000 in
theorem must_ok (W : World) (g q : Nat) (l : List Int) (p n e' : Int) (h : Rd W g q l 0 0 p n) :
    Calls Tryd.prog 93 #[.pointer (some ⟨g, 0, none⟩), .bool true, .int .i64 e'] W fun ex W' => ex = .returned (.bool true) ∧ Hid (Rd W' g q l 0 0 p n) ∧ Hid (Two W W' g q) := by
  have H := Lib.hid (ok_calls W g q l 0 0 p n h)
  clear h
  go_enter Tryd.func93, Tryd.ntmps93
  go_wp2_with (go_at_call 75; refine (H.out).mono ?_; rintro e W1 ⟨rfl, h1, h2⟩; have c1 : W1.cell? ⟨g, 1, none⟩ = some (.int .i64 0) := h1.out.blk.cell 1 rfl)
  go_ret
  exact ⟨rfl, h1, h2⟩
set_option maxHeartbeats 1000000 in
theorem must_no (W : World) (g q : Nat) (l : List Int) (p n e' : Int) (h : Rd W g q l 0 0 p n) (he : e' ≠ 0) :
    Calls Tryd.prog 93 #[.pointer (some ⟨g, 0, none⟩), .bool false, .int .i64 e'] W fun ex W' => ex = .returned (.bool false) ∧ Hid (Rd W' g q l 0 e' p n) ∧ Hid (Two W W' g q) := by
  have H := Lib.hid (ok_calls W g q l 0 0 p n h)
  have he2 : (e' == 0) = false := by simpa using he
  have HN := Lib.hid he
  clear h he
  go_enter Tryd.func93, Tryd.ntmps93
  go_wp2_with (go_at_call 75; refine (H.out).mono ?_; rintro e W1 ⟨rfl, h1, h2⟩; have c1 : W1.cell? ⟨g, 1, none⟩ = some (.int .i64 0) := h1.out.blk.cell 1 rfl; have f1 := h1.out.blk.froz 1; have d1 : (W1.setCell ⟨g, 1, none⟩ (.int .i64 e')).cell? ⟨g, 1, none⟩ = some (.int .i64 e') := (h1.out.setE e').blk.cell 1 rfl)
  go_ret
  exact ⟨by simp [HN.out], Lib.hid (h1.out.setE e'), Lib.hid (h2.out.set _)⟩
set_option maxHeartbeats 1000000 in
theorem metP_ok (W : World) (g q : Nat) (l : List Int) (p n v most : Int) (h : Rd W g q l 0 0 p n) (hv : p + v ≤ most) (h0 : 0 ≤ p) (h1 : p ≤ 4000) (h2 : 0 ≤ v) (h3 : v < 4294967296) :
    Calls Tryd.prog 116 #[.pointer (some ⟨g, 0, none⟩), .int .i64 v, .pointer (some ⟨g, 2, none⟩), .int .i64 most] W fun ex W' => ex = .returned (.bool true) ∧ Hid (Rd W' g q l 0 0 (p + v) (n)) ∧ Hid (Two W W' g q) := by
  have H := Lib.hid h
  have c1 : W.cell? ⟨g, 2, none⟩ = some (.int .i64 p) := h.blk.cell 2 rfl
  have f1 := h.blk.froz 2
  have hs := h.setP (p + v)
  have ht : Two W (W.setCell ⟨g, 2, none⟩ (.int .i64 (p + v))) g q := (Two.refl _ _ _).set _
  have d1 : (W.setCell ⟨g, 2, none⟩ (.int .i64 (p + v))).cell? ⟨g, 2, none⟩ = some (.int .i64 (p + v)) := hs.blk.cell 2 rfl
  have HS := Lib.hid hs
  have HT := Lib.hid ht
  have hw : IntKind.i64.wrap (p + v) = p + v := IntWalk.i64_in _ (by omega)
  have hd : decide (p + v ≤ most) = true := by simpa using hv
  clear h hs ht h0 h1 h2 h3 hv
  go_enter Tryd.func116, Tryd.ntmps116
  go_upto_region 2 with (fail)
  obtain ⟨W1, hW⟩ : ∃ X, W.setCell ⟨g, 2, none⟩ (.int .i64 (p + v)) = X := ⟨_, rfl⟩
  rw [hW] at d1 HS HT ⊢
  clear hW c1 f1
  go_wp2_with (go_at_call 93; refine (must_ok W1 g q l _ _ 12 HS.out).mono ?_; rintro e W2 ⟨rfl, h1, h2⟩)
  go_ret
  exact ⟨rfl, h1, Lib.hid (HT.out.trans h2.out)⟩
set_option maxHeartbeats 1000000 in
theorem metP_no (W : World) (g q : Nat) (l : List Int) (p n v most : Int) (h : Rd W g q l 0 0 p n) (hv : most < p + v) (h0 : 0 ≤ p) (h1 : p ≤ 4000) (h2 : 0 ≤ v) (h3 : v < 4294967296) :
    Calls Tryd.prog 116 #[.pointer (some ⟨g, 0, none⟩), .int .i64 v, .pointer (some ⟨g, 2, none⟩), .int .i64 most] W fun ex W' => ex = .returned (.bool false) ∧ Hid (Rd W' g q l 0 12 (p + v) (n)) ∧ Hid (Two W W' g q) := by
  have H := Lib.hid h
  have c1 : W.cell? ⟨g, 2, none⟩ = some (.int .i64 p) := h.blk.cell 2 rfl
  have f1 := h.blk.froz 2
  have hs := h.setP (p + v)
  have ht : Two W (W.setCell ⟨g, 2, none⟩ (.int .i64 (p + v))) g q := (Two.refl _ _ _).set _
  have d1 : (W.setCell ⟨g, 2, none⟩ (.int .i64 (p + v))).cell? ⟨g, 2, none⟩ = some (.int .i64 (p + v)) := hs.blk.cell 2 rfl
  have HS := Lib.hid hs
  have HT := Lib.hid ht
  have hw : IntKind.i64.wrap (p + v) = p + v := IntWalk.i64_in _ (by omega)
  have hd : decide (p + v ≤ most) = false := by simpa using hv
  clear h hs ht h0 h1 h2 h3 hv
  go_enter Tryd.func116, Tryd.ntmps116
  go_upto_region 2 with (fail)
  obtain ⟨W1, hW⟩ : ∃ X, W.setCell ⟨g, 2, none⟩ (.int .i64 (p + v)) = X := ⟨_, rfl⟩
  rw [hW] at d1 HS HT ⊢
  clear hW c1 f1
  go_wp2_with (go_at_call 93; refine (must_no W1 g q l _ _ 12 HS.out (by decide)).mono ?_; rintro e W2 ⟨rfl, h1, h2⟩)
  go_ret
  exact ⟨rfl, h1, Lib.hid (HT.out.trans h2.out)⟩
set_option maxHeartbeats 1000000 in
theorem metN_ok (W : World) (g q : Nat) (l : List Int) (p n v most : Int) (h : Rd W g q l 0 0 p n) (hv : n + v ≤ most) (h0 : 0 ≤ n) (h1 : n ≤ 4000) (h2 : 0 ≤ v) (h3 : v < 4294967296) :
    Calls Tryd.prog 116 #[.pointer (some ⟨g, 0, none⟩), .int .i64 v, .pointer (some ⟨g, 3, none⟩), .int .i64 most] W fun ex W' => ex = .returned (.bool true) ∧ Hid (Rd W' g q l 0 0 (p) (n + v)) ∧ Hid (Two W W' g q) := by
  have H := Lib.hid h
  have c1 : W.cell? ⟨g, 3, none⟩ = some (.int .i64 n) := h.blk.cell 3 rfl
  have f1 := h.blk.froz 3
  have hs := h.setN (n + v)
  have ht : Two W (W.setCell ⟨g, 3, none⟩ (.int .i64 (n + v))) g q := (Two.refl _ _ _).set _
  have d1 : (W.setCell ⟨g, 3, none⟩ (.int .i64 (n + v))).cell? ⟨g, 3, none⟩ = some (.int .i64 (n + v)) := hs.blk.cell 3 rfl
  have HS := Lib.hid hs
  have HT := Lib.hid ht
  have hw : IntKind.i64.wrap (n + v) = n + v := IntWalk.i64_in _ (by omega)
  have hd : decide (n + v ≤ most) = true := by simpa using hv
  clear h hs ht h0 h1 h2 h3 hv
  go_enter Tryd.func116, Tryd.ntmps116
  go_upto_region 2 with (fail)
  obtain ⟨W1, hW⟩ : ∃ X, W.setCell ⟨g, 3, none⟩ (.int .i64 (n + v)) = X := ⟨_, rfl⟩
  rw [hW] at d1 HS HT ⊢
  clear hW c1 f1
  go_wp2_with (go_at_call 93; refine (must_ok W1 g q l _ _ 12 HS.out).mono ?_; rintro e W2 ⟨rfl, h1, h2⟩)
  go_ret
  exact ⟨rfl, h1, Lib.hid (HT.out.trans h2.out)⟩
set_option maxHeartbeats 1000000 in
theorem metN_no (W : World) (g q : Nat) (l : List Int) (p n v most : Int) (h : Rd W g q l 0 0 p n) (hv : most < n + v) (h0 : 0 ≤ n) (h1 : n ≤ 4000) (h2 : 0 ≤ v) (h3 : v < 4294967296) :
    Calls Tryd.prog 116 #[.pointer (some ⟨g, 0, none⟩), .int .i64 v, .pointer (some ⟨g, 3, none⟩), .int .i64 most] W fun ex W' => ex = .returned (.bool false) ∧ Hid (Rd W' g q l 0 12 (p) (n + v)) ∧ Hid (Two W W' g q) := by
  have H := Lib.hid h
  have c1 : W.cell? ⟨g, 3, none⟩ = some (.int .i64 n) := h.blk.cell 3 rfl
  have f1 := h.blk.froz 3
  have hs := h.setN (n + v)
  have ht : Two W (W.setCell ⟨g, 3, none⟩ (.int .i64 (n + v))) g q := (Two.refl _ _ _).set _
  have d1 : (W.setCell ⟨g, 3, none⟩ (.int .i64 (n + v))).cell? ⟨g, 3, none⟩ = some (.int .i64 (n + v)) := hs.blk.cell 3 rfl
  have HS := Lib.hid hs
  have HT := Lib.hid ht
  have hw : IntKind.i64.wrap (n + v) = n + v := IntWalk.i64_in _ (by omega)
  have hd : decide (n + v ≤ most) = false := by simpa using hv
  clear h hs ht h0 h1 h2 h3 hv
  go_enter Tryd.func116, Tryd.ntmps116
  go_upto_region 2 with (fail)
  obtain ⟨W1, hW⟩ : ∃ X, W.setCell ⟨g, 3, none⟩ (.int .i64 (n + v)) = X := ⟨_, rfl⟩
  rw [hW] at d1 HS HT ⊢
  clear hW c1 f1
  go_wp2_with (go_at_call 93; refine (must_no W1 g q l _ _ 12 HS.out (by decide)).mono ?_; rintro e W2 ⟨rfl, h1, h2⟩)
  go_ret
  exact ⟨rfl, h1, Lib.hid (HT.out.trans h2.out)⟩
/-- Nothing is wrong; what was met is within the bounds. -/
structure Gd (W : World) (g q : Nat) (l : List Int) (p n : Int) : Prop where
  rd : Rd W g q l 0 0 p n
  p0 : 0 ≤ p
  p1 : p ≤ 4000
  n0 : 0 ≤ n
  n1 : n ≤ 1000
  len : l.length < 100000000000
/-- Something is wrong. -/
def Bad (W : World) (g q : Nat) (c : Int) : Prop := c ≠ 0 ∧ ∃ l se e p n, Rd W g q l se e p n ∧ er se e = c
theorem Gd.lt {W : World} {g q : Nat} {l : List Int} {p n : Int} (h : Gd W g q l p n) : g < W.heap.size ∧ q < W.heap.size := h.rd.two
theorem Bad.lt {W : World} {g q : Nat} {c : Int} (h : Bad W g q c) : g < W.heap.size ∧ q < W.heap.size := by obtain ⟨_, _, _, _, _, _, h, _⟩ := h; exact h.two
theorem Gd.bel {W W' : World} {g q : Nat} {l : List Int} {p n : Int} (h : Gd W g q l p n) (hb : Bel W W') : Gd W' g q l p n := ⟨h.rd.bel hb, h.p0, h.p1, h.n0, h.n1, h.len⟩
theorem Bad.bel {W W' : World} {g q : Nat} {c : Int} (h : Bad W g q c) (hb : Bel W W') : Bad W' g q c := by
  obtain ⟨hc, l, se, e, p, n, h, he⟩ := h
  exact ⟨hc, l, se, e, p, n, h.bel hb, he⟩
theorem Gd.c0 {W : World} {g q : Nat} {l : List Int} {p n : Int} (h : Gd W g q l p n) : W.cell? ⟨g, 0, none⟩ = some (.pointer (some ⟨q, 0, none⟩)) := h.rd.blk.cell 0 rfl
theorem Bad.c0 {W : World} {g q : Nat} {c : Int} (h : Bad W g q c) : W.cell? ⟨g, 0, none⟩ = some (.pointer (some ⟨q, 0, none⟩)) := by
  obtain ⟨hc, l, se, e, p, n, h, he⟩ := h
  exact h.blk.cell 0 rfl
theorem Bad.mk' {W : World} {g q : Nat} {l : List Int} {se e p n c : Int} (h : Rd W g q l se e p n) (he : er se e = c) (hc : c ≠ 0) : Bad W g q c := ⟨hc, l, se, e, p, n, h, he⟩
theorem Gd.ok {W : World} {g q : Nat} {l : List Int} {p n : Int} (h : Gd W g q l p n) :
    Calls Tryd.prog 75 #[.pointer (some ⟨g, 0, none⟩)] W fun ex W' => ex = .returned (.bool true) ∧ Hid (Gd W' g q l p n) ∧ Hid (Two W W' g q) := by
  refine (ok_calls W g q l 0 0 p n h.rd).mono ?_
  rintro e W1 ⟨rfl, h1, h2⟩
  exact ⟨rfl, Lib.hid ⟨h1.out, h.p0, h.p1, h.n0, h.n1, h.len⟩, h2⟩
theorem Bad.ok {W : World} {g q : Nat} {c : Int} (h : Bad W g q c) :
    Calls Tryd.prog 75 #[.pointer (some ⟨g, 0, none⟩)] W fun ex W' => ex = .returned (.bool false) ∧ Hid (Bad W' g q c ∧ W'.cell? ⟨g, 1, none⟩ = some (.int .i64 c)) ∧ Hid (Two W W' g q) := by
  obtain ⟨hc, l, se, e, p, n, h, he⟩ := h
  refine (ok_calls W g q l se e p n h).mono ?_
  rintro e2 W1 ⟨rfl, h1, h2⟩
  have hd : decide (er se e = 0) = false := by rw [he]; simpa using hc
  have h3 := h1.out
  rw [he] at h3
  exact ⟨by rw [hd], Lib.hid ⟨Bad.mk' h3 (by unfold er; rw [if_neg hc]) hc, h3.blk.cell 1 rfl⟩, h2⟩
theorem Gd.must {W : World} {g q : Nat} {l : List Int} {p n : Int} (h : Gd W g q l p n) (e' : Int) :
    Calls Tryd.prog 93 #[.pointer (some ⟨g, 0, none⟩), .bool true, .int .i64 e'] W fun ex W' => ex = .returned (.bool true) ∧ Hid (Gd W' g q l p n) ∧ Hid (Two W W' g q) := by
  refine (must_ok W g q l p n e' h.rd).mono ?_
  rintro e W1 ⟨rfl, h1, h2⟩
  exact ⟨rfl, Lib.hid ⟨h1.out, h.p0, h.p1, h.n0, h.n1, h.len⟩, h2⟩
theorem Gd.mustnt {W : World} {g q : Nat} {l : List Int} {p n : Int} (h : Gd W g q l p n) (e' : Int) (he : e' ≠ 0) :
    Calls Tryd.prog 93 #[.pointer (some ⟨g, 0, none⟩), .bool false, .int .i64 e'] W fun ex W' => ex = .returned (.bool false) ∧ Hid (Bad W' g q e') ∧ Hid (Two W W' g q) := by
  refine (must_no W g q l p n e' h.rd he).mono ?_
  rintro e W1 ⟨rfl, h1, h2⟩
  exact ⟨rfl, Lib.hid (Bad.mk' h1.out (by unfold er; rw [if_neg he]) he), h2⟩
theorem getV4_in {l : List Int} (h : bytesOk l) (o : Bool) (hl : ¬ l.length < 4) : getV l 4 o = ((getV l 4 o).1, true) ∧ 0 ≤ (getV l 4 o).1 ∧ (getV l 4 o).1 < 4294967296 := by
  unfold getV
  rw [if_neg (by omega)]
  have hh : ∀ x ∈ head l 4 o, 0 ≤ x ∧ x < 256 := by
    intro x hx
    unfold head at hx
    split at hx
    · rw [List.mem_reverse] at hx; exact h x (List.mem_of_mem_take hx)
    · exact h x (List.mem_of_mem_take hx)
  have hlen : (head l 4 o).length = 4 := by unfold head; split <;> simp <;> omega
  have := MOct.num_range (head l ((4 : Int).toNat) o) hh
  rw [show (head l ((4 : Int).toNat) o).length = 4 from hlen] at this
  exact ⟨rfl, this.1, by omega⟩
theorem getV_short {l : List Int} {k : Int} (o : Bool) (hl : (l.length : Int) < k) : getV l k o = (0, false) := by
  unfold getV
  rw [if_pos (by omega)]
theorem bytesOk_drop {l : List Int} (h : bytesOk l) (k : Nat) : bytesOk (l.drop k) := fun x hx => h x (List.mem_of_mem_drop hx)
theorem numS_ok4 {l : List Int} (h : bytesOk l) (o : Bool) (hl : ¬ l.length < 4) : numS true l 0 4 o = ((getV l 4 o).1, l.drop 4, 0) := by
  have h1 := (getV4_in h o hl).1
  have h2 : (getV l 4 o).2 = true := by rw [h1]
  unfold numS
  rw [if_neg (by simp), if_neg (by omega), if_pos h2]
  rfl
theorem numS_no {l : List Int} {k : Int} (o : Bool) (hk : 1 ≤ k ∧ k ≤ 8) (hl : (l.length : Int) < k) : numS true l 0 k o = (0, [], 8) := by
  unfold numS
  rw [if_neg (by simp), if_neg (by omega), getV_short o hl, if_neg (by decide)]
theorem Gd.num {W : World} {g q : Nat} {l : List Int} {p n : Int} (h : Gd W g q l p n) (o : Bool) (hl : ¬ l.length < 4) :
    Calls Tryd.prog 94 #[.pointer (some ⟨q, 0, none⟩), .int .i64 4, .bool o] W fun ex W' => ex = .returned (.int .u64 (getV l 4 o).1) ∧ Hid (Gd W' g q (l.drop 4) p n) ∧ Hid (Two W W' g q) := by
  have e := numS_ok4 h.rd.byt o hl
  refine (Num_calls W q true l 0 4 o h.rd.src h.rd.byt).mono ?_
  rw [e]
  rintro ex W1 ⟨rfl, h1, h2⟩
  exact ⟨rfl, Lib.hid ⟨h.rd.src' h1 h2 (bytesOk_drop h.rd.byt 4), h.p0, h.p1, h.n0, h.n1, by have := h.len; rw [List.length_drop]; omega⟩, Lib.hid (Two.of_q g h1)⟩
theorem Gd.numnt {W : World} {g q : Nat} {l : List Int} {p n : Int} (h : Gd W g q l p n) (o : Bool) (hl : l.length < 4) :
    Calls Tryd.prog 94 #[.pointer (some ⟨q, 0, none⟩), .int .i64 4, .bool o] W fun ex W' => ex = .returned (.int .u64 0) ∧ Hid (Bad W' g q 8) ∧ Hid (Two W W' g q) := by
  refine (Num_calls W q true l 0 4 o h.rd.src h.rd.byt).mono ?_
  rw [numS_no o (by omega) (by omega)]
  rintro ex W1 ⟨rfl, h1, h2⟩
  exact ⟨rfl, Lib.hid (Bad.mk' (h.rd.src' h1 h2 bytesOk_nil) rfl (by decide)), Lib.hid (Two.of_q g h1)⟩
theorem Gd.left {W : World} {g q : Nat} {l : List Int} {p n : Int} (h : Gd W g q l p n) :
    Calls Tryd.prog 76 #[.pointer (some ⟨q, 0, none⟩)] W fun ex W' => ex = .returned (.int .i64 l.length) ∧ W = W' := Left_calls W q true l 0 h.rd.src
set_option maxHeartbeats 1000000 in
theorem numP16_short {W : World} {g q : Nat} {l : List Int} {p n : Int} (h : Gd W g q l p n) (o : Bool) (hl : l.length < 4) :
    Calls Tryd.prog 117 #[.pointer (some ⟨g, 0, none⟩), .int .i64 16, .bool o, .pointer (some ⟨g, 2, none⟩), .int .i64 4000] W fun ex W' => ex = .returned (.int .i64 0) ∧ Hid (Bad W' g q 8) ∧ Hid (Two W W' g q) := by
  have c0 := h.c0
  have HNUM := Lib.hid (h.numnt o hl)
  clear h hl
  go_enter Tryd.func117, Tryd.ntmps117
  go_wp2_with (first
    | (go_at_call 75; refine (h1.out.ok).mono ?_; rintro e W2 ⟨rfl, h3, h4⟩)
    | (go_at_call 94; refine (HNUM.out).mono ?_; rintro e W1 ⟨rfl, h1, h2⟩))
  go_ret
  exact ⟨rfl, Lib.hid h3.out.1, Lib.hid (h2.out.trans h4.out)⟩
set_option maxHeartbeats 1000000 in
theorem numP16_many {W : World} {g q : Nat} {l : List Int} {p n : Int} (h : Gd W g q l p n) (o : Bool) (hl : ¬ l.length < 4) (hv : 4000 < p + (getV l 4 o).1) :
    Calls Tryd.prog 117 #[.pointer (some ⟨g, 0, none⟩), .int .i64 16, .bool o, .pointer (some ⟨g, 2, none⟩), .int .i64 4000] W fun ex W' => ex = .returned (.int .i64 0) ∧ Hid (Bad W' g q 12) ∧ Hid (Two W W' g q) := by
  have c0 := h.c0
  obtain ⟨-, hv0, hv1⟩ := getV4_in h.rd.byt o hl
  have HNUM := Lib.hid (h.num o hl)
  obtain ⟨v, hvv⟩ : ∃ v, (getV l 4 o).1 = v := ⟨_, rfl⟩
  rw [hvv] at HNUM hv hv0 hv1
  obtain ⟨m, hm⟩ : ∃ m, l.drop 4 = m := ⟨_, rfl⟩
  rw [hm] at HNUM
  have hw : IntKind.i64.wrap v = v := IntWalk.i64_in _ (by omega)
  have HV := Lib.hid hv
  have HV0 := Lib.hid hv0
  have HV1 := Lib.hid hv1
  clear h hl hvv hm hv hv0 hv1
  go_enter Tryd.func117, Tryd.ntmps117
  go_wp2_with (first
    | (go_at_call 116; refine (metP_no _ g q m p n v 4000 h3.out.rd HV.out h3.out.p0 (by have := h3.out.p1; omega) HV0.out HV1.out).mono ?_; rintro e W3 ⟨rfl, h5, h6⟩)
    | (go_at_call 75; refine (h1.out.ok).mono ?_; rintro e W2 ⟨rfl, h3, h4⟩)
    | (go_at_call 94; refine (HNUM.out).mono ?_; rintro e W1 ⟨rfl, h1, h2⟩))
  go_ret
  exact ⟨rfl, Lib.hid (Bad.mk' h5.out rfl (by decide)), Lib.hid ((h2.out.trans h4.out).trans h6.out)⟩
set_option maxHeartbeats 1000000 in
theorem numP16_less {W : World} {g q : Nat} {l : List Int} {p n : Int} (h : Gd W g q l p n) (o : Bool) (hl : ¬ l.length < 4) (hv : ¬ 4000 < p + (getV l 4 o).1) (hr : ((l.drop 4).length : Int) / 16 < (getV l 4 o).1) :
    Calls Tryd.prog 117 #[.pointer (some ⟨g, 0, none⟩), .int .i64 16, .bool o, .pointer (some ⟨g, 2, none⟩), .int .i64 4000] W fun ex W' => ex = .returned (.int .i64 0) ∧ Hid (Bad W' g q 8) ∧ Hid (Two W W' g q) := by
  have c0 := h.c0
  obtain ⟨-, hv0, hv1⟩ := getV4_in h.rd.byt o hl
  have HNUM := Lib.hid (h.num o hl)
  obtain ⟨v, hvv⟩ : ∃ v, (getV l 4 o).1 = v := ⟨_, rfl⟩
  rw [hvv] at HNUM hv hr hv0 hv1
  have hln := h.len
  obtain ⟨m, hm⟩ : ∃ m, l.drop 4 = m := ⟨_, rfl⟩
  have hml : m.length < 100000000000 := by rw [← hm, List.length_drop]; omega
  rw [hm] at HNUM hr
  obtain ⟨k, hk⟩ : ∃ k : Int, (m.length : Int) / 16 = k := ⟨_, rfl⟩
  rw [hk] at hr
  have hw : IntKind.i64.wrap v = v := IntWalk.i64_in _ (by omega)
  have ht : (m.length : Int).tdiv 16 = k := by rw [← hk]; exact Int.tdiv_eq_ediv_of_nonneg (by omega)
  have hw2 : IntKind.i64.wrap k = k := IntWalk.i64_in _ (by omega)
  have hd : decide (v ≤ k) = false := by simpa using hr
  have HV := Lib.hid (show p + v ≤ 4000 by omega)
  have HV0 := Lib.hid hv0
  have HV1 := Lib.hid hv1
  clear h hl hvv hm hv hv0 hv1 hr hml hk hln
  go_enter Tryd.func117, Tryd.ntmps117
  go_wp2_with (first
    | (go_at_call 93; refine (must_no _ g q m _ _ 8 h5.out (by decide)).mono ?_; rintro e W4 ⟨rfl, h7, h8⟩)
    | (go_at_call 76; refine (Left_calls _ q true m 0 h5.out.src).mono ?_; rintro e W9 ⟨rfl, rfl⟩)
    | (go_at_call 116; refine (metP_ok _ g q m p n v 4000 h3.out.rd HV.out h3.out.p0 (by have := h3.out.p1; omega) HV0.out HV1.out).mono ?_; rintro e W3 ⟨rfl, h5, h6⟩; have c3 : W3.cell? ⟨g, 0, none⟩ = some (.pointer (some ⟨q, 0, none⟩)) := h5.out.blk.cell 0 rfl)
    | (go_at_call 75; refine (h1.out.ok).mono ?_; rintro e W2 ⟨rfl, h3, h4⟩)
    | (go_at_call 94; refine (HNUM.out).mono ?_; rintro e W1 ⟨rfl, h1, h2⟩))
  go_ret
  exact ⟨rfl, Lib.hid (Bad.mk' h7.out rfl (by decide)), Lib.hid (((h2.out.trans h4.out).trans h6.out).trans h8.out)⟩
set_option maxHeartbeats 1000000 in
theorem numP16_good {W : World} {g q : Nat} {l : List Int} {p n : Int} (h : Gd W g q l p n) (o : Bool) (hl : ¬ l.length < 4) (hv : ¬ 4000 < p + (getV l 4 o).1) (hr : ¬ ((l.drop 4).length : Int) / 16 < (getV l 4 o).1) :
    Calls Tryd.prog 117 #[.pointer (some ⟨g, 0, none⟩), .int .i64 16, .bool o, .pointer (some ⟨g, 2, none⟩), .int .i64 4000] W fun ex W' => ex = .returned (.int .i64 (getV l 4 o).1) ∧ Hid (Gd W' g q (l.drop 4) (p + (getV l 4 o).1) (n)) ∧ Hid (Two W W' g q) := by
  have c0 := h.c0
  obtain ⟨-, hv0, hv1⟩ := getV4_in h.rd.byt o hl
  have HNUM := Lib.hid (h.num o hl)
  obtain ⟨v, hvv⟩ : ∃ v, (getV l 4 o).1 = v := ⟨_, rfl⟩
  rw [hvv] at HNUM hv hr hv0 hv1 ⊢
  have hln := h.len
  obtain ⟨m, hm⟩ : ∃ m, l.drop 4 = m := ⟨_, rfl⟩
  have hml : m.length < 100000000000 := by rw [← hm, List.length_drop]; omega
  rw [hm] at HNUM hr ⊢
  obtain ⟨k, hk⟩ : ∃ k : Int, (m.length : Int) / 16 = k := ⟨_, rfl⟩
  rw [hk] at hr
  have hw : IntKind.i64.wrap v = v := IntWalk.i64_in _ (by omega)
  have ht : (m.length : Int).tdiv 16 = k := by rw [← hk]; exact Int.tdiv_eq_ediv_of_nonneg (by omega)
  have hw2 : IntKind.i64.wrap k = k := IntWalk.i64_in _ (by omega)
  have hd : decide (v ≤ k) = true := by simpa using hr
  have HV := Lib.hid (show p + v ≤ 4000 by omega)
  have HV0 := Lib.hid hv0
  have HV1 := Lib.hid hv1
  have HL := Lib.hid hml
  have HG := Lib.hid (show 0 ≤ p ∧ p ≤ 4000 ∧ 0 ≤ n ∧ n ≤ 1000 from ⟨h.p0, h.p1, h.n0, h.n1⟩)
  clear h hl hvv hm hv hv0 hv1 hr hml hk hln
  go_enter Tryd.func117, Tryd.ntmps117
  go_wp2_with (first
    | (go_at_call 93; refine (must_ok _ g q m _ _ 8 h5.out).mono ?_; rintro e W4 ⟨rfl, h7, h8⟩)
    | (go_at_call 76; refine (Left_calls _ q true m 0 h5.out.src).mono ?_; rintro e W9 ⟨rfl, rfl⟩)
    | (go_at_call 116; refine (metP_ok _ g q m p n v 4000 h3.out.rd HV.out h3.out.p0 (by have := h3.out.p1; omega) HV0.out HV1.out).mono ?_; rintro e W3 ⟨rfl, h5, h6⟩; have c3 : W3.cell? ⟨g, 0, none⟩ = some (.pointer (some ⟨q, 0, none⟩)) := h5.out.blk.cell 0 rfl)
    | (go_at_call 75; refine (h1.out.ok).mono ?_; rintro e W2 ⟨rfl, h3, h4⟩)
    | (go_at_call 94; refine (HNUM.out).mono ?_; rintro e W1 ⟨rfl, h1, h2⟩))
  go_ret
  have HG' := HG.out
  have HV' := HV.out
  have HV0' := HV0.out
  exact ⟨rfl, Lib.hid ⟨h7.out, by omega, by omega, by omega, by omega, HL.out⟩, Lib.hid (((h2.out.trans h4.out).trans h6.out).trans h8.out)⟩
/-- How many. -/
theorem numP16_bad {W : World} {g q : Nat} {l : List Int} {p n c : Int} (h : Gd W g q l p n) (o : Bool) (hr : MRead.numberS 16 o false 4000 l p n = .bad c) :
    Calls Tryd.prog 117 #[.pointer (some ⟨g, 0, none⟩), .int .i64 16, .bool o, .pointer (some ⟨g, 2, none⟩), .int .i64 4000] W fun ex W' => ex = .returned (.int .i64 0) ∧ Hid (Bad W' g q c) ∧ Hid (Two W W' g q) := by
  rcases MRead.number_ways 16 4000 o false l p n with ⟨h1, h2⟩ | ⟨h1, h3, h2⟩ | ⟨h1, h3, h4, h2⟩ | ⟨h1, h3, h4, h2⟩
  · rw [h2] at hr; injection hr with e; subst e; exact numP16_short h o h1
  · rw [h2] at hr; injection hr with e; subst e; exact numP16_many h o h1 h3
  · rw [h2] at hr; injection hr with e; subst e; exact numP16_less h o h1 h3 h4
  · rw [h2] at hr; cases hr
theorem numP16_ok {W : World} {g q : Nat} {l l' : List Int} {p n v p' n' : Int} (h : Gd W g q l p n) (o : Bool) (hr : MRead.numberS 16 o false 4000 l p n = .ok v l' p' n') :
    Calls Tryd.prog 117 #[.pointer (some ⟨g, 0, none⟩), .int .i64 16, .bool o, .pointer (some ⟨g, 2, none⟩), .int .i64 4000] W fun ex W' => ex = .returned (.int .i64 v) ∧ Hid (Gd W' g q l' p' n') ∧ Hid (Two W W' g q) := by
  obtain ⟨h1, h3, h4, rfl, rfl, rfl, rfl⟩ := MRead.number_ok hr
  exact numP16_good h o h1 h3 h4
set_option maxHeartbeats 1000000 in
theorem numN4_short {W : World} {g q : Nat} {l : List Int} {p n : Int} (h : Gd W g q l p n) (o : Bool) (hl : l.length < 4) :
    Calls Tryd.prog 117 #[.pointer (some ⟨g, 0, none⟩), .int .i64 4, .bool o, .pointer (some ⟨g, 3, none⟩), .int .i64 1000] W fun ex W' => ex = .returned (.int .i64 0) ∧ Hid (Bad W' g q 8) ∧ Hid (Two W W' g q) := by
  have c0 := h.c0
  have HNUM := Lib.hid (h.numnt o hl)
  clear h hl
  go_enter Tryd.func117, Tryd.ntmps117
  go_wp2_with (first
    | (go_at_call 75; refine (h1.out.ok).mono ?_; rintro e W2 ⟨rfl, h3, h4⟩)
    | (go_at_call 94; refine (HNUM.out).mono ?_; rintro e W1 ⟨rfl, h1, h2⟩))
  go_ret
  exact ⟨rfl, Lib.hid h3.out.1, Lib.hid (h2.out.trans h4.out)⟩
set_option maxHeartbeats 1000000 in
theorem numN4_many {W : World} {g q : Nat} {l : List Int} {p n : Int} (h : Gd W g q l p n) (o : Bool) (hl : ¬ l.length < 4) (hv : 1000 < n + (getV l 4 o).1) :
    Calls Tryd.prog 117 #[.pointer (some ⟨g, 0, none⟩), .int .i64 4, .bool o, .pointer (some ⟨g, 3, none⟩), .int .i64 1000] W fun ex W' => ex = .returned (.int .i64 0) ∧ Hid (Bad W' g q 12) ∧ Hid (Two W W' g q) := by
  have c0 := h.c0
  obtain ⟨-, hv0, hv1⟩ := getV4_in h.rd.byt o hl
  have HNUM := Lib.hid (h.num o hl)
  obtain ⟨v, hvv⟩ : ∃ v, (getV l 4 o).1 = v := ⟨_, rfl⟩
  rw [hvv] at HNUM hv hv0 hv1
  obtain ⟨m, hm⟩ : ∃ m, l.drop 4 = m := ⟨_, rfl⟩
  rw [hm] at HNUM
  have hw : IntKind.i64.wrap v = v := IntWalk.i64_in _ (by omega)
  have HV := Lib.hid hv
  have HV0 := Lib.hid hv0
  have HV1 := Lib.hid hv1
  clear h hl hvv hm hv hv0 hv1
  go_enter Tryd.func117, Tryd.ntmps117
  go_wp2_with (first
    | (go_at_call 116; refine (metN_no _ g q m p n v 1000 h3.out.rd HV.out h3.out.n0 (by have := h3.out.n1; omega) HV0.out HV1.out).mono ?_; rintro e W3 ⟨rfl, h5, h6⟩)
    | (go_at_call 75; refine (h1.out.ok).mono ?_; rintro e W2 ⟨rfl, h3, h4⟩)
    | (go_at_call 94; refine (HNUM.out).mono ?_; rintro e W1 ⟨rfl, h1, h2⟩))
  go_ret
  exact ⟨rfl, Lib.hid (Bad.mk' h5.out rfl (by decide)), Lib.hid ((h2.out.trans h4.out).trans h6.out)⟩
set_option maxHeartbeats 1000000 in
theorem numN4_less {W : World} {g q : Nat} {l : List Int} {p n : Int} (h : Gd W g q l p n) (o : Bool) (hl : ¬ l.length < 4) (hv : ¬ 1000 < n + (getV l 4 o).1) (hr : ((l.drop 4).length : Int) / 4 < (getV l 4 o).1) :
    Calls Tryd.prog 117 #[.pointer (some ⟨g, 0, none⟩), .int .i64 4, .bool o, .pointer (some ⟨g, 3, none⟩), .int .i64 1000] W fun ex W' => ex = .returned (.int .i64 0) ∧ Hid (Bad W' g q 8) ∧ Hid (Two W W' g q) := by
  have c0 := h.c0
  obtain ⟨-, hv0, hv1⟩ := getV4_in h.rd.byt o hl
  have HNUM := Lib.hid (h.num o hl)
  obtain ⟨v, hvv⟩ : ∃ v, (getV l 4 o).1 = v := ⟨_, rfl⟩
  rw [hvv] at HNUM hv hr hv0 hv1
  have hln := h.len
  obtain ⟨m, hm⟩ : ∃ m, l.drop 4 = m := ⟨_, rfl⟩
  have hml : m.length < 100000000000 := by rw [← hm, List.length_drop]; omega
  rw [hm] at HNUM hr
  obtain ⟨k, hk⟩ : ∃ k : Int, (m.length : Int) / 4 = k := ⟨_, rfl⟩
  rw [hk] at hr
  have hw : IntKind.i64.wrap v = v := IntWalk.i64_in _ (by omega)
  have ht : (m.length : Int).tdiv 4 = k := by rw [← hk]; exact Int.tdiv_eq_ediv_of_nonneg (by omega)
  have hw2 : IntKind.i64.wrap k = k := IntWalk.i64_in _ (by omega)
  have hd : decide (v ≤ k) = false := by simpa using hr
  have HV := Lib.hid (show n + v ≤ 1000 by omega)
  have HV0 := Lib.hid hv0
  have HV1 := Lib.hid hv1
  clear h hl hvv hm hv hv0 hv1 hr hml hk hln
  go_enter Tryd.func117, Tryd.ntmps117
  go_wp2_with (first
    | (go_at_call 93; refine (must_no _ g q m _ _ 8 h5.out (by decide)).mono ?_; rintro e W4 ⟨rfl, h7, h8⟩)
    | (go_at_call 76; refine (Left_calls _ q true m 0 h5.out.src).mono ?_; rintro e W9 ⟨rfl, rfl⟩)
    | (go_at_call 116; refine (metN_ok _ g q m p n v 1000 h3.out.rd HV.out h3.out.n0 (by have := h3.out.n1; omega) HV0.out HV1.out).mono ?_; rintro e W3 ⟨rfl, h5, h6⟩; have c3 : W3.cell? ⟨g, 0, none⟩ = some (.pointer (some ⟨q, 0, none⟩)) := h5.out.blk.cell 0 rfl)
    | (go_at_call 75; refine (h1.out.ok).mono ?_; rintro e W2 ⟨rfl, h3, h4⟩)
    | (go_at_call 94; refine (HNUM.out).mono ?_; rintro e W1 ⟨rfl, h1, h2⟩))
  go_ret
  exact ⟨rfl, Lib.hid (Bad.mk' h7.out rfl (by decide)), Lib.hid (((h2.out.trans h4.out).trans h6.out).trans h8.out)⟩
set_option maxHeartbeats 1000000 in
theorem numN4_good {W : World} {g q : Nat} {l : List Int} {p n : Int} (h : Gd W g q l p n) (o : Bool) (hl : ¬ l.length < 4) (hv : ¬ 1000 < n + (getV l 4 o).1) (hr : ¬ ((l.drop 4).length : Int) / 4 < (getV l 4 o).1) :
    Calls Tryd.prog 117 #[.pointer (some ⟨g, 0, none⟩), .int .i64 4, .bool o, .pointer (some ⟨g, 3, none⟩), .int .i64 1000] W fun ex W' => ex = .returned (.int .i64 (getV l 4 o).1) ∧ Hid (Gd W' g q (l.drop 4) (p) (n + (getV l 4 o).1)) ∧ Hid (Two W W' g q) := by
  have c0 := h.c0
  obtain ⟨-, hv0, hv1⟩ := getV4_in h.rd.byt o hl
  have HNUM := Lib.hid (h.num o hl)
  obtain ⟨v, hvv⟩ : ∃ v, (getV l 4 o).1 = v := ⟨_, rfl⟩
  rw [hvv] at HNUM hv hr hv0 hv1 ⊢
  have hln := h.len
  obtain ⟨m, hm⟩ : ∃ m, l.drop 4 = m := ⟨_, rfl⟩
  have hml : m.length < 100000000000 := by rw [← hm, List.length_drop]; omega
  rw [hm] at HNUM hr ⊢
  obtain ⟨k, hk⟩ : ∃ k : Int, (m.length : Int) / 4 = k := ⟨_, rfl⟩
  rw [hk] at hr
  have hw : IntKind.i64.wrap v = v := IntWalk.i64_in _ (by omega)
  have ht : (m.length : Int).tdiv 4 = k := by rw [← hk]; exact Int.tdiv_eq_ediv_of_nonneg (by omega)
  have hw2 : IntKind.i64.wrap k = k := IntWalk.i64_in _ (by omega)
  have hd : decide (v ≤ k) = true := by simpa using hr
  have HV := Lib.hid (show n + v ≤ 1000 by omega)
  have HV0 := Lib.hid hv0
  have HV1 := Lib.hid hv1
  have HL := Lib.hid hml
  have HG := Lib.hid (show 0 ≤ p ∧ p ≤ 4000 ∧ 0 ≤ n ∧ n ≤ 1000 from ⟨h.p0, h.p1, h.n0, h.n1⟩)
  clear h hl hvv hm hv hv0 hv1 hr hml hk hln
  go_enter Tryd.func117, Tryd.ntmps117
  go_wp2_with (first
    | (go_at_call 93; refine (must_ok _ g q m _ _ 8 h5.out).mono ?_; rintro e W4 ⟨rfl, h7, h8⟩)
    | (go_at_call 76; refine (Left_calls _ q true m 0 h5.out.src).mono ?_; rintro e W9 ⟨rfl, rfl⟩)
    | (go_at_call 116; refine (metN_ok _ g q m p n v 1000 h3.out.rd HV.out h3.out.n0 (by have := h3.out.n1; omega) HV0.out HV1.out).mono ?_; rintro e W3 ⟨rfl, h5, h6⟩; have c3 : W3.cell? ⟨g, 0, none⟩ = some (.pointer (some ⟨q, 0, none⟩)) := h5.out.blk.cell 0 rfl)
    | (go_at_call 75; refine (h1.out.ok).mono ?_; rintro e W2 ⟨rfl, h3, h4⟩)
    | (go_at_call 94; refine (HNUM.out).mono ?_; rintro e W1 ⟨rfl, h1, h2⟩))
  go_ret
  have HG' := HG.out
  have HV' := HV.out
  have HV0' := HV0.out
  exact ⟨rfl, Lib.hid ⟨h7.out, by omega, by omega, by omega, by omega, HL.out⟩, Lib.hid (((h2.out.trans h4.out).trans h6.out).trans h8.out)⟩
/-- How many. -/
theorem numN4_bad {W : World} {g q : Nat} {l : List Int} {p n c : Int} (h : Gd W g q l p n) (o : Bool) (hr : MRead.numberS 4 o true 1000 l p n = .bad c) :
    Calls Tryd.prog 117 #[.pointer (some ⟨g, 0, none⟩), .int .i64 4, .bool o, .pointer (some ⟨g, 3, none⟩), .int .i64 1000] W fun ex W' => ex = .returned (.int .i64 0) ∧ Hid (Bad W' g q c) ∧ Hid (Two W W' g q) := by
  rcases MRead.number_ways 4 1000 o true l p n with ⟨h1, h2⟩ | ⟨h1, h3, h2⟩ | ⟨h1, h3, h4, h2⟩ | ⟨h1, h3, h4, h2⟩
  · rw [h2] at hr; injection hr with e; subst e; exact numN4_short h o h1
  · rw [h2] at hr; injection hr with e; subst e; exact numN4_many h o h1 h3
  · rw [h2] at hr; injection hr with e; subst e; exact numN4_less h o h1 h3 h4
  · rw [h2] at hr; cases hr
theorem numN4_ok {W : World} {g q : Nat} {l l' : List Int} {p n v p' n' : Int} (h : Gd W g q l p n) (o : Bool) (hr : MRead.numberS 4 o true 1000 l p n = .ok v l' p' n') :
    Calls Tryd.prog 117 #[.pointer (some ⟨g, 0, none⟩), .int .i64 4, .bool o, .pointer (some ⟨g, 3, none⟩), .int .i64 1000] W fun ex W' => ex = .returned (.int .i64 v) ∧ Hid (Gd W' g q l' p' n') ∧ Hid (Two W W' g q) := by
  obtain ⟨h1, h3, h4, rfl, rfl, rfl, rfl⟩ := MRead.number_ok hr
  exact numN4_good h o h1 h3 h4
set_option maxHeartbeats 1000000 in
theorem numN9_short {W : World} {g q : Nat} {l : List Int} {p n : Int} (h : Gd W g q l p n) (o : Bool) (hl : l.length < 4) :
    Calls Tryd.prog 117 #[.pointer (some ⟨g, 0, none⟩), .int .i64 9, .bool o, .pointer (some ⟨g, 3, none⟩), .int .i64 1000] W fun ex W' => ex = .returned (.int .i64 0) ∧ Hid (Bad W' g q 8) ∧ Hid (Two W W' g q) := by
  have c0 := h.c0
  have HNUM := Lib.hid (h.numnt o hl)
  clear h hl
  go_enter Tryd.func117, Tryd.ntmps117
  go_wp2_with (first
    | (go_at_call 75; refine (h1.out.ok).mono ?_; rintro e W2 ⟨rfl, h3, h4⟩)
    | (go_at_call 94; refine (HNUM.out).mono ?_; rintro e W1 ⟨rfl, h1, h2⟩))
  go_ret
  exact ⟨rfl, Lib.hid h3.out.1, Lib.hid (h2.out.trans h4.out)⟩
set_option maxHeartbeats 1000000 in
theorem numN9_many {W : World} {g q : Nat} {l : List Int} {p n : Int} (h : Gd W g q l p n) (o : Bool) (hl : ¬ l.length < 4) (hv : 1000 < n + (getV l 4 o).1) :
    Calls Tryd.prog 117 #[.pointer (some ⟨g, 0, none⟩), .int .i64 9, .bool o, .pointer (some ⟨g, 3, none⟩), .int .i64 1000] W fun ex W' => ex = .returned (.int .i64 0) ∧ Hid (Bad W' g q 12) ∧ Hid (Two W W' g q) := by
  have c0 := h.c0
  obtain ⟨-, hv0, hv1⟩ := getV4_in h.rd.byt o hl
  have HNUM := Lib.hid (h.num o hl)
  obtain ⟨v, hvv⟩ : ∃ v, (getV l 4 o).1 = v := ⟨_, rfl⟩
  rw [hvv] at HNUM hv hv0 hv1
  obtain ⟨m, hm⟩ : ∃ m, l.drop 4 = m := ⟨_, rfl⟩
  rw [hm] at HNUM
  have hw : IntKind.i64.wrap v = v := IntWalk.i64_in _ (by omega)
  have HV := Lib.hid hv
  have HV0 := Lib.hid hv0
  have HV1 := Lib.hid hv1
  clear h hl hvv hm hv hv0 hv1
  go_enter Tryd.func117, Tryd.ntmps117
  go_wp2_with (first
    | (go_at_call 116; refine (metN_no _ g q m p n v 1000 h3.out.rd HV.out h3.out.n0 (by have := h3.out.n1; omega) HV0.out HV1.out).mono ?_; rintro e W3 ⟨rfl, h5, h6⟩)
    | (go_at_call 75; refine (h1.out.ok).mono ?_; rintro e W2 ⟨rfl, h3, h4⟩)
    | (go_at_call 94; refine (HNUM.out).mono ?_; rintro e W1 ⟨rfl, h1, h2⟩))
  go_ret
  exact ⟨rfl, Lib.hid (Bad.mk' h5.out rfl (by decide)), Lib.hid ((h2.out.trans h4.out).trans h6.out)⟩
set_option maxHeartbeats 1000000 in
theorem numN9_less {W : World} {g q : Nat} {l : List Int} {p n : Int} (h : Gd W g q l p n) (o : Bool) (hl : ¬ l.length < 4) (hv : ¬ 1000 < n + (getV l 4 o).1) (hr : ((l.drop 4).length : Int) / 9 < (getV l 4 o).1) :
    Calls Tryd.prog 117 #[.pointer (some ⟨g, 0, none⟩), .int .i64 9, .bool o, .pointer (some ⟨g, 3, none⟩), .int .i64 1000] W fun ex W' => ex = .returned (.int .i64 0) ∧ Hid (Bad W' g q 8) ∧ Hid (Two W W' g q) := by
  have c0 := h.c0
  obtain ⟨-, hv0, hv1⟩ := getV4_in h.rd.byt o hl
  have HNUM := Lib.hid (h.num o hl)
  obtain ⟨v, hvv⟩ : ∃ v, (getV l 4 o).1 = v := ⟨_, rfl⟩
  rw [hvv] at HNUM hv hr hv0 hv1
  have hln := h.len
  obtain ⟨m, hm⟩ : ∃ m, l.drop 4 = m := ⟨_, rfl⟩
  have hml : m.length < 100000000000 := by rw [← hm, List.length_drop]; omega
  rw [hm] at HNUM hr
  obtain ⟨k, hk⟩ : ∃ k : Int, (m.length : Int) / 9 = k := ⟨_, rfl⟩
  rw [hk] at hr
  have hw : IntKind.i64.wrap v = v := IntWalk.i64_in _ (by omega)
  have ht : (m.length : Int).tdiv 9 = k := by rw [← hk]; exact Int.tdiv_eq_ediv_of_nonneg (by omega)
  have hw2 : IntKind.i64.wrap k = k := IntWalk.i64_in _ (by omega)
  have hd : decide (v ≤ k) = false := by simpa using hr
  have HV := Lib.hid (show n + v ≤ 1000 by omega)
  have HV0 := Lib.hid hv0
  have HV1 := Lib.hid hv1
  clear h hl hvv hm hv hv0 hv1 hr hml hk hln
  go_enter Tryd.func117, Tryd.ntmps117
  go_wp2_with (first
    | (go_at_call 93; refine (must_no _ g q m _ _ 8 h5.out (by decide)).mono ?_; rintro e W4 ⟨rfl, h7, h8⟩)
    | (go_at_call 76; refine (Left_calls _ q true m 0 h5.out.src).mono ?_; rintro e W9 ⟨rfl, rfl⟩)
    | (go_at_call 116; refine (metN_ok _ g q m p n v 1000 h3.out.rd HV.out h3.out.n0 (by have := h3.out.n1; omega) HV0.out HV1.out).mono ?_; rintro e W3 ⟨rfl, h5, h6⟩; have c3 : W3.cell? ⟨g, 0, none⟩ = some (.pointer (some ⟨q, 0, none⟩)) := h5.out.blk.cell 0 rfl)
    | (go_at_call 75; refine (h1.out.ok).mono ?_; rintro e W2 ⟨rfl, h3, h4⟩)
    | (go_at_call 94; refine (HNUM.out).mono ?_; rintro e W1 ⟨rfl, h1, h2⟩))
  go_ret
  exact ⟨rfl, Lib.hid (Bad.mk' h7.out rfl (by decide)), Lib.hid (((h2.out.trans h4.out).trans h6.out).trans h8.out)⟩
set_option maxHeartbeats 1000000 in
theorem numN9_good {W : World} {g q : Nat} {l : List Int} {p n : Int} (h : Gd W g q l p n) (o : Bool) (hl : ¬ l.length < 4) (hv : ¬ 1000 < n + (getV l 4 o).1) (hr : ¬ ((l.drop 4).length : Int) / 9 < (getV l 4 o).1) :
    Calls Tryd.prog 117 #[.pointer (some ⟨g, 0, none⟩), .int .i64 9, .bool o, .pointer (some ⟨g, 3, none⟩), .int .i64 1000] W fun ex W' => ex = .returned (.int .i64 (getV l 4 o).1) ∧ Hid (Gd W' g q (l.drop 4) (p) (n + (getV l 4 o).1)) ∧ Hid (Two W W' g q) := by
  have c0 := h.c0
  obtain ⟨-, hv0, hv1⟩ := getV4_in h.rd.byt o hl
  have HNUM := Lib.hid (h.num o hl)
  obtain ⟨v, hvv⟩ : ∃ v, (getV l 4 o).1 = v := ⟨_, rfl⟩
  rw [hvv] at HNUM hv hr hv0 hv1 ⊢
  have hln := h.len
  obtain ⟨m, hm⟩ : ∃ m, l.drop 4 = m := ⟨_, rfl⟩
  have hml : m.length < 100000000000 := by rw [← hm, List.length_drop]; omega
  rw [hm] at HNUM hr ⊢
  obtain ⟨k, hk⟩ : ∃ k : Int, (m.length : Int) / 9 = k := ⟨_, rfl⟩
  rw [hk] at hr
  have hw : IntKind.i64.wrap v = v := IntWalk.i64_in _ (by omega)
  have ht : (m.length : Int).tdiv 9 = k := by rw [← hk]; exact Int.tdiv_eq_ediv_of_nonneg (by omega)
  have hw2 : IntKind.i64.wrap k = k := IntWalk.i64_in _ (by omega)
  have hd : decide (v ≤ k) = true := by simpa using hr
  have HV := Lib.hid (show n + v ≤ 1000 by omega)
  have HV0 := Lib.hid hv0
  have HV1 := Lib.hid hv1
  have HL := Lib.hid hml
  have HG := Lib.hid (show 0 ≤ p ∧ p ≤ 4000 ∧ 0 ≤ n ∧ n ≤ 1000 from ⟨h.p0, h.p1, h.n0, h.n1⟩)
  clear h hl hvv hm hv hv0 hv1 hr hml hk hln
  go_enter Tryd.func117, Tryd.ntmps117
  go_wp2_with (first
    | (go_at_call 93; refine (must_ok _ g q m _ _ 8 h5.out).mono ?_; rintro e W4 ⟨rfl, h7, h8⟩)
    | (go_at_call 76; refine (Left_calls _ q true m 0 h5.out.src).mono ?_; rintro e W9 ⟨rfl, rfl⟩)
    | (go_at_call 116; refine (metN_ok _ g q m p n v 1000 h3.out.rd HV.out h3.out.n0 (by have := h3.out.n1; omega) HV0.out HV1.out).mono ?_; rintro e W3 ⟨rfl, h5, h6⟩; have c3 : W3.cell? ⟨g, 0, none⟩ = some (.pointer (some ⟨q, 0, none⟩)) := h5.out.blk.cell 0 rfl)
    | (go_at_call 75; refine (h1.out.ok).mono ?_; rintro e W2 ⟨rfl, h3, h4⟩)
    | (go_at_call 94; refine (HNUM.out).mono ?_; rintro e W1 ⟨rfl, h1, h2⟩))
  go_ret
  have HG' := HG.out
  have HV' := HV.out
  have HV0' := HV0.out
  exact ⟨rfl, Lib.hid ⟨h7.out, by omega, by omega, by omega, by omega, HL.out⟩, Lib.hid (((h2.out.trans h4.out).trans h6.out).trans h8.out)⟩
/-- How many. -/
theorem numN9_bad {W : World} {g q : Nat} {l : List Int} {p n c : Int} (h : Gd W g q l p n) (o : Bool) (hr : MRead.numberS 9 o true 1000 l p n = .bad c) :
    Calls Tryd.prog 117 #[.pointer (some ⟨g, 0, none⟩), .int .i64 9, .bool o, .pointer (some ⟨g, 3, none⟩), .int .i64 1000] W fun ex W' => ex = .returned (.int .i64 0) ∧ Hid (Bad W' g q c) ∧ Hid (Two W W' g q) := by
  rcases MRead.number_ways 9 1000 o true l p n with ⟨h1, h2⟩ | ⟨h1, h3, h2⟩ | ⟨h1, h3, h4, h2⟩ | ⟨h1, h3, h4, h2⟩
  · rw [h2] at hr; injection hr with e; subst e; exact numN9_short h o h1
  · rw [h2] at hr; injection hr with e; subst e; exact numN9_many h o h1 h3
  · rw [h2] at hr; injection hr with e; subst e; exact numN9_less h o h1 h3 h4
  · rw [h2] at hr; cases hr
theorem numN9_ok {W : World} {g q : Nat} {l l' : List Int} {p n v p' n' : Int} (h : Gd W g q l p n) (o : Bool) (hr : MRead.numberS 9 o true 1000 l p n = .ok v l' p' n') :
    Calls Tryd.prog 117 #[.pointer (some ⟨g, 0, none⟩), .int .i64 9, .bool o, .pointer (some ⟨g, 3, none⟩), .int .i64 1000] W fun ex W' => ex = .returned (.int .i64 v) ∧ Hid (Gd W' g q l' p' n') ∧ Hid (Two W W' g q) := by
  obtain ⟨h1, h3, h4, rfl, rfl, rfl, rfl⟩ := MRead.number_ok hr
  exact numN9_good h o h1 h3 h4
end Go.Proofs.YtfknhpgelleenaaDoor.K
namespace Go.Proofs.YtfknhpgelleenaaDoor.K
open Go Go.RowKit Go.Proofs.YtfknhpgelleenaaDoorW.PrintWords Go.Proofs.YtfknhpgelleenaaDoorW.PrintLast Go.Proofs.YtfknhpgelleenaaDoorW.PrintMore
set_option linter.unusedVariables false
set_option linter.unusedSimpArgs false
open Go.Proofs.YtfknhpgelleenaaDoor.MOct (getV head)
theorem CB.grow {w w' : World} {A : Option Addr} {l : List Int} {B : Nat} (h : CB w A l) (hb : Below B w w') (hr : 0 < l.length → ∀ ad, A = some ad → ad.block < B) : CB w' A l := by
  refine ⟨h.1, h.2.1, fun h0 => ?_⟩
  obtain ⟨ad, e, hc⟩ := h.2.2 h0
  refine ⟨ad, e, fun j p hj => ?_⟩
  obtain ⟨c, h1, h2, h3⟩ := hc j p hj
  refine ⟨c, h1, h2, fun i u hu => (World.cell?_of_block (hb.block _ ?_)).trans (h3 i u hu)⟩
  rw [add_block]
  exact hr h0 ad e
/-- What lies below stays. -/
theorem Rd.under {W W' : World} {B g q : Nat} {l : List Int} {se e p n : Int} (h : Rd W g q l se e p n) (hb : Below B W W') (hg : g < B) (hq : q < B) : Rd W' g q l se e p n := by
  obtain ⟨A, c, h1, h2, h3⟩ := h.src
  exact ⟨(hb.block g hg).trans h.blk, ⟨A, c, (hb.block q hq).trans h1, h2, ⟨h3.cb.grow hb (fun h0 ad e => by have := h3.old h0 ad e; omega), h3.old⟩⟩, h.ne, h.byt, h.g2, h.q2⟩
theorem Gd.under {W W' : World} {B g q : Nat} {l : List Int} {p n : Int} (h : Gd W g q l p n) (hb : Below B W W') (hg : g < B) (hq : q < B) : Gd W' g q l p n := ⟨h.rd.under hb hg hq, h.p0, h.p1, h.n0, h.n1, h.len⟩
theorem Bad.under {W W' : World} {B g q : Nat} {c : Int} (h : Bad W g q c) (hb : Below B W W') (hg : g < B) (hq : q < B) : Bad W' g q c := by
  obtain ⟨hc, l, se, e, p, n, h, he⟩ := h
  exact ⟨hc, l, se, e, p, n, h.under hb hg hq, he⟩
theorem Two.under {w W W' : World} {B g q : Nat} (h : Two w W g q) (hb : Below B W W') (hB : w.heap.size ≤ B) : Two w W' g q :=
  ⟨hb.os.trans h.1, hb.tape.trans h.2.1, hb.output.trans h.2.2.1, Nat.le_trans h.2.2.2.1 hb.size, fun i hi hg hk => (hb.block i (by omega)).trans (h.2.2.2.2 i hi hg hk)⟩
theorem R_two {α : Type} {d : Kd α} {e B g q : Nat} {W W' : World} {ok : Nat → Prop} {v : Value} {xs : List α} (h : d.R e W B ok v xs) (ht : Two W W' g q) (hg : g < B) (hq : q < B) : d.R e W' B ok v xs :=
  Kd.R_mono (Kd.R_move (Kd.R_bound h) (fun k hk => ht.2.2.2.2 k hk.2.2.1 (by have := hk.2.1; omega) (by have := hk.2.1; omega))) (fun k hk => hk.1)
theorem wrapI_eq {v : Int} (h0 : 0 ≤ v) (h1 : v < 18446744073709551616) : wrap64 v = MRead.wrapI v := by unfold wrap64 MRead.wrapI; split <;> omega
theorem getV8_in {l : List Int} (h : bytesOk l) (o : Bool) (hl : ¬ l.length < 8) : getV l 8 o = ((getV l 8 o).1, true) ∧ 0 ≤ (getV l 8 o).1 ∧ (getV l 8 o).1 < 18446744073709551616 := by
  unfold getV
  rw [if_neg (by omega)]
  have hh : ∀ x ∈ head l 8 o, 0 ≤ x ∧ x < 256 := by
    intro x hx
    unfold head at hx
    split at hx
    · rw [List.mem_reverse] at hx; exact h x (List.mem_of_mem_take hx)
    · exact h x (List.mem_of_mem_take hx)
  have hlen : (head l 8 o).length = 8 := by unfold head; split <;> simp <;> omega
  have := MOct.num_range (head l ((8 : Int).toNat) o) hh
  rw [show (head l ((8 : Int).toNat) o).length = 8 from hlen] at this
  exact ⟨rfl, this.1, by omega⟩
theorem numS_ok8 {l : List Int} (h : bytesOk l) (o : Bool) (hl : ¬ l.length < 8) : numS true l 0 8 o = ((getV l 8 o).1, l.drop 8, 0) := by
  have h1 := (getV8_in h o hl).1
  have h2 : (getV l 8 o).2 = true := by rw [h1]
  unfold numS
  rw [if_neg (by simp), if_neg (by omega), if_pos h2]
  rfl
/-- The source is at its end. -/
def Bs (W : World) (g q : Nat) : Prop := ∃ l p n, Rd W g q l 8 0 p n
theorem Bs.bad {W : World} {g q : Nat} (h : Bs W g q) : Bad W g q 8 := by obtain ⟨l, p, n, h⟩ := h; exact Bad.mk' h rfl (by decide)
theorem Bs.bel {W W' : World} {g q : Nat} (h : Bs W g q) (hb : Bel W W') : Bs W' g q := by obtain ⟨l, p, n, h⟩ := h; exact ⟨l, p, n, h.bel hb⟩
theorem Bs.c0 {W : World} {g q : Nat} (h : Bs W g q) : W.cell? ⟨g, 0, none⟩ = some (.pointer (some ⟨q, 0, none⟩)) := h.bad.c0
theorem Bs.under {W W' : World} {B g q : Nat} (h : Bs W g q) (hb : Below B W W') (hg : g < B) (hq : q < B) : Bs W' g q := by obtain ⟨l, p, n, h⟩ := h; exact ⟨l, p, n, h.under hb hg hq⟩
theorem Gd.int {W : World} {g q : Nat} {l : List Int} {p n : Int} (h : Gd W g q l p n) (o : Bool) (hl : ¬ l.length < 8) :
    Calls Tryd.prog 104 #[.pointer (some ⟨q, 0, none⟩), .bool o] W fun ex W' => ex = .returned (.int .i64 (MRead.wrapI (getV l 8 o).1)) ∧ Hid (Gd W' g q (l.drop 8) p n) ∧ Hid (Two W W' g q) := by
  obtain ⟨-, hv0, hv1⟩ := getV8_in h.rd.byt o hl
  refine (Int_calls W q true l 0 o h.rd.src h.rd.byt).mono ?_
  rw [numS_ok8 h.rd.byt o hl]
  rintro ex W1 ⟨rfl, h1, h2⟩
  exact ⟨by rw [wrapI_eq hv0 hv1], Lib.hid ⟨h.rd.src' h1 h2 (bytesOk_drop h.rd.byt 8), h.p0, h.p1, h.n0, h.n1, by have := h.len; rw [List.length_drop]; omega⟩, Lib.hid (Two.of_q g h1)⟩
theorem Gd.intnt {W : World} {g q : Nat} {l : List Int} {p n : Int} (h : Gd W g q l p n) (o : Bool) (hl : l.length < 8) :
    Calls Tryd.prog 104 #[.pointer (some ⟨q, 0, none⟩), .bool o] W fun ex W' => ex = .returned (.int .i64 0) ∧ Hid (Bs W' g q) ∧ Hid (Two W W' g q) := by
  refine (Int_calls W q true l 0 o h.rd.src h.rd.byt).mono ?_
  rw [numS_no o (by omega) (by omega), show wrap64 ((0 : Int), ([] : List Int), (8 : Int)).1 = 0 from by show wrap64 0 = 0; unfold wrap64; omega]
  rintro ex W1 ⟨rfl, h1, h2⟩
  exact ⟨rfl, Lib.hid ⟨[], p, n, h.rd.src' h1 h2 bytesOk_nil⟩, Lib.hid (Two.of_q g h1)⟩
theorem Bs.int {W : World} {g q : Nat} (h : Bs W g q) (o : Bool) :
    Calls Tryd.prog 104 #[.pointer (some ⟨q, 0, none⟩), .bool o] W fun ex W' => ex = .returned (.int .i64 0) ∧ Hid (Bs W' g q) ∧ Hid (Two W W' g q) := by
  obtain ⟨l, p, n, h⟩ := h
  refine (Int_calls W q true l 8 o h.src h.byt).mono ?_
  have e : numS true l 8 8 o = (0, l, 8) := by unfold numS; rw [if_pos (by simp)]
  rw [e, show wrap64 ((0 : Int), l, (8 : Int)).1 = 0 from by show wrap64 0 = 0; unfold wrap64; omega]
  rintro ex W1 ⟨rfl, h1, h2⟩
  exact ⟨rfl, Lib.hid ⟨l, p, n, h.src' h1 h2 h.byt⟩, Lib.hid (Two.of_q g h1)⟩
set_option maxHeartbeats 1000000 in
/-- The next ordinate: by two boxes. -/
theorem next_calls (W : World) (b3 b5 g q : Nat) (o : Bool) (v : Int) (R : World → Prop) (h3 : W.cell? ⟨b3, 0, none⟩ = some (.pointer (some ⟨g, 0, none⟩))) (h5 : W.cell? ⟨b5, 0, none⟩ = some (.bool o)) (h0 : W.cell? ⟨g, 0, none⟩ = some (.pointer (some ⟨q, 0, none⟩)))
    (HI : Calls Tryd.prog 104 #[.pointer (some ⟨q, 0, none⟩), .bool o] W.drew fun ex W' => ex = .returned (.int .i64 v) ∧ R W') :
    Calls Tryd.prog 120 #[.pointer (some ⟨b3, 0, none⟩), .pointer (some ⟨b5, 0, none⟩)] W fun ex W' => ex = .returned (.int .i64 v) ∧ R W' := by
  have H := Lib.hid HI
  clear HI
  go_enter Tryd.func120, Tryd.ntmps120
  go_upto_region 1 with (fail)
  go_region_law (first
    | (go_simp; go_at_call 104; refine (H.out).mono ?_; rintro e w7 ⟨rfl, h7⟩))
  all_goals
    go_wp2
    go_ret
    exact ⟨rfl, h7⟩
end Go.Proofs.YtfknhpgelleenaaDoor.K
namespace Go.Proofs.YtfknhpgelleenaaDoor.K
open Go Go.RowKit Go.Proofs.YtfknhpgelleenaaDoorW.PrintWords Go.Proofs.YtfknhpgelleenaaDoorW.PrintLast Go.Proofs.YtfknhpgelleenaaDoorW.PrintMore
set_option linter.unusedVariables false
set_option linter.unusedSimpArgs false
open Go.Proofs.YtfknhpgelleenaaDoor.MOct (getV head)
open Go.Proofs.YtfknhpgelleenaaDoor.MRead (ptD ptsD)
/-- A row of points made from B on. -/
abbrev RP (B : Nat) (W : World) (v : Value) (l : List (Int × Int)) : Prop := KPt.R 41 W B (fun _ => True) v l
section
variable {ops : Array Oper} {rest : List Oper} {o : Oper} {a : Act} {Q : Exit → Act → World → Prop}
/-- append(dots, point) -/
theorem appDot {B : Nat} {W : World} (s x : Operand) (hgd : o.guard = none) (ho : o.op = .call { callee := .builtin .append, args := #[s, x], argTypes := #[157, 157] })
    (v : Value) (xs : List (Int × Int)) (p : Int × Int) (hs : a.eval s = v) (hx : a.eval x = .slice (some ⟨W.heap.size, 0, none⟩) 1 1)
    (HO : RP B W v xs) (hB : B ≤ W.heap.size) (hl : xs.length + 1 < 100000000)
    (h : ∀ v1 w1, Hid (RP B w1 v1 (xs ++ [p])) → Hid (Below B W w1) → wpList Tryd.prog ops Q rest (a.put o.dst v1) w1) :
    wpList Tryd.prog ops Q (o :: rest) a (W.alloc (.cells #[.int .i64 p.1, .int .i64 p.2] 41)) :=
  Kd.R_append KPt (w0 := W) B hgd s x 157 41 (.agg #[.int .i64 0, .int .i64 0]) 16 ho Tryd.underlying157 infoPt rfl (by decide) (by omega) v xs p [.int .i64 p.1, .int .i64 p.2] (fun _ => True) (fun _ => False) hs hx
    ⟨_, _, rfl, rfl, rfl⟩ (fun _ hk => hk.elim) (fun _ _ => trivial) HO (Below.refl _ _) hB (by omega) (fun v1 w1 ho hb hg hat => h v1 w1 (Lib.hid ho) (Lib.hid hb))
end
/-- The boxes of line. -/
def Bx2 (W : World) (b3 b5 g : Nat) (o : Bool) : Prop := Blk W b3 #[.pointer (some ⟨g, 0, none⟩)] 103 ∧ Blk W b5 #[.bool o] 4
theorem Bx2.two {W W' : World} {b3 b5 g q : Nat} {o : Bool} (h : Bx2 W b3 b5 g o) (ht : Two W W' g q) (hg : g < b3) (hq : q < b3) (h35 : b3 < b5) : Bx2 W' b3 b5 g o :=
  ⟨ht.blk h.1 (by omega) (by omega), ht.blk h.2 (by omega) (by omega)⟩
theorem Gd.next {W : World} {g q : Nat} {l : List Int} {p n : Int} (h : Gd W g q l p n) (o : Bool) (hl : ¬ l.length < 8) {b3 b5 : Nat} (hx : Bx2 W b3 b5 g o) :
    Calls Tryd.prog 120 #[.pointer (some ⟨b3, 0, none⟩), .pointer (some ⟨b5, 0, none⟩)] W fun ex W' => ex = .returned (.int .i64 (MRead.wrapI (getV l 8 o).1)) ∧ Hid (Gd W' g q (l.drop 8) p n) ∧ Hid (Two W W' g q) := by
  refine (next_calls W b3 b5 g q o _ (fun W' => Hid (Gd W' g q (l.drop 8) p n) ∧ Hid (Two W.drew W' g q)) (hx.1.cell 0 rfl) (hx.2.cell 0 rfl) h.c0 ((h.bel (Bel.drew W)).int o hl)).mono ?_
  rintro ex W1 ⟨rfl, h1, h2⟩
  exact ⟨rfl, h1, Lib.hid ((Two.of_bel g q (Bel.drew W)).trans h2.out)⟩
theorem Gd.nextnt {W : World} {g q : Nat} {l : List Int} {p n : Int} (h : Gd W g q l p n) (o : Bool) (hl : l.length < 8) {b3 b5 : Nat} (hx : Bx2 W b3 b5 g o) :
    Calls Tryd.prog 120 #[.pointer (some ⟨b3, 0, none⟩), .pointer (some ⟨b5, 0, none⟩)] W fun ex W' => ex = .returned (.int .i64 0) ∧ Hid (Bs W' g q) ∧ Hid (Two W W' g q) := by
  refine (next_calls W b3 b5 g q o _ (fun W' => Hid (Bs W' g q) ∧ Hid (Two W.drew W' g q)) (hx.1.cell 0 rfl) (hx.2.cell 0 rfl) h.c0 ((h.bel (Bel.drew W)).intnt o hl)).mono ?_
  rintro ex W1 ⟨rfl, h1, h2⟩
  exact ⟨rfl, h1, Lib.hid ((Two.of_bel g q (Bel.drew W)).trans h2.out)⟩
theorem Bs.next {W : World} {g q : Nat} (h : Bs W g q) (o : Bool) {b3 b5 : Nat} (hx : Bx2 W b3 b5 g o) :
    Calls Tryd.prog 120 #[.pointer (some ⟨b3, 0, none⟩), .pointer (some ⟨b5, 0, none⟩)] W fun ex W' => ex = .returned (.int .i64 0) ∧ Hid (Bs W' g q) ∧ Hid (Two W W' g q) := by
  refine (next_calls W b3 b5 g q o _ (fun W' => Hid (Bs W' g q) ∧ Hid (Two W.drew W' g q)) (hx.1.cell 0 rfl) (hx.2.cell 0 rfl) h.c0 ((h.bel (Bel.drew W)).int o)).mono ?_
  rintro ex W1 ⟨rfl, h1, h2⟩
  exact ⟨rfl, h1, Lib.hid ((Two.of_bel g q (Bel.drew W)).trans h2.out)⟩
set_option maxHeartbeats 2000000 in
set_option maxRecDepth 100000 in
theorem line_good {W : World} {g q : Nat} {l : List Int} {p n : Int} (h : Gd W g q l p n) (o : Bool) (k : Nat) (hl : 16 * k ≤ l.length) (hk : k ≤ 100000) :
    Calls Tryd.prog 115 #[.pointer (some ⟨g, 0, none⟩), .int .i64 k, .bool o] W fun ex W' => ∃ v, ex = .returned (.iface 157 v) ∧ Hid (RP W.heap.size W' v (ptsD o k l)) ∧ Hid (Gd W' g q (l.drop (16 * k)) p n) ∧ Hid (Two W W' g q) := by
  have H := Lib.hid h
  have HL := Lib.hid hl
  have HK := Lib.hid hk
  have HLT := Lib.hid h.lt
  have S := (Blk.new W #[.pointer (some ⟨g, 0, none⟩)] 103).alloc (.cells #[.bool o] 4)
  have R := Blk.new_at (W := W.alloc (.cells #[.pointer (some ⟨g, 0, none⟩)] 103)) (g := W.heap.size + 1) (by simp) #[.bool o] 4
  have HB : Hid (Bel W ((W.alloc (.cells #[.pointer (some ⟨g, 0, none⟩)] 103)).alloc (.cells #[.bool o] 4))) := Lib.hid (by repeat (first | exact Below.refl _ _ | refine Below.alloc ?_ (by simp <;> omega) _))
  clear h hl hk
  go_enter Tryd.func115, Tryd.ntmps115
  go_upto_region 1 with (fail)
  obtain ⟨W1, hW⟩ : ∃ X, (W.alloc (.cells #[.pointer (some ⟨g, 0, none⟩)] 103)).alloc (.cells #[.bool o] 4) = X := ⟨_, rfl⟩
  rw [hW] at S R HB ⊢
  clear hW
  obtain ⟨b3, hb3⟩ : ∃ b, W.heap.size = b := ⟨_, rfl⟩
  have HB3 := Lib.hid hb3
  rw [hb3] at S R ⊢
  obtain ⟨b5, hb5⟩ : ∃ b, b3 + 1 = b := ⟨_, rfl⟩
  have HB5 := Lib.hid hb5
  rw [hb5] at R ⊢
  clear hb3 hb5
  go_wp2
  have hg3 : Hid (g < b3 ∧ q < b3 ∧ b3 < b5) := Lib.hid ⟨by have := HLT.out.1; have := HB3.out; omega, by have := HLT.out.2; have := HB3.out; omega, by have := HB5.out; omega⟩
  obtain ⟨b6, hb6⟩ : ∃ b, b5 + 1 = b := ⟨_, rfl⟩
  have hg6 : Hid (b5 < b6 ∧ g < b6 ∧ q < b6 ∧ b6 ≤ W1.heap.size) := Lib.hid ⟨by omega, by have := hg3.out; omega, by have := hg3.out; omega, by have := R.lt; omega⟩
  clear hb6
  have HS : Hid (Gd W1 g q l p n) := Lib.hid (H.out.bel HB.out)
  have HX0 : Hid (Bx2 W1 b3 b5 g o) := Lib.hid ⟨S, R⟩
  clear S R
  go_loopw [1, 7] (fun i v wr => ∃ j : Nat, i = .int .i64 ((k : Int) - j) ∧ j ≤ k ∧ Hid (RP b6 wr v (ptsD o j l)) ∧ Hid (Gd wr g q (l.drop (16 * j)) p n) ∧ Hid (Two W wr g q) ∧ Hid (Bx2 wr b3 b5 g o) ∧ Hid (b6 ≤ wr.heap.size)) (fun i _ _ => (intOf i).toNat)
  case atStart => exact ⟨0, by simp, by omega, Lib.hid (Kd.R_nil _ _ _ _ _), Lib.hid (by simpa using HS.out), Lib.hid (Two.of_bel g q HB.out), HX0, Lib.hid hg6.out.2.2.2⟩
  case round =>
    obtain ⟨j, rfl, hj, HR, HG, HT, HX, HZ⟩ := hrel
    have c3 : wr.cell? ⟨b3, 0, none⟩ = some (.pointer (some ⟨g, 0, none⟩)) := HX.out.1.cell 0 rfl
    by_cases hlt : j < k
    · have hgt : (0 : Int) < (k : Int) - j := by omega
      have HJ := Lib.hid hlt
      obtain ⟨l', hl'⟩ : ∃ l', l.drop (16 * j) = l' := ⟨_, rfl⟩
      have HD := Lib.hid hl'
      have HLL : Hid (16 ≤ l'.length) := Lib.hid (by rw [← hl', List.length_drop]; have := HL.out; omega)
      rw [hl'] at HG
      clear hl'
      have hw : IntKind.i64.wrap ((k : Int) - j - 1) = (k : Int) - j - 1 := IntWalk.i64_in _ (by have := HK.out; omega)
      clear hlt
      go_wp2_with (first
        | (at_builtin; refine appDot (B := b6) (.tmp 21) (.tmp 26) rfl rfl u7 (ptsD o j l) (ptD o l') rfl rfl R3.out Z3.out (by rw [MRead.ptsD_length]; have := HK.out; have := HJ.out; omega) ?_; intro v1 w4 h4 hb4)
        | (go_at_call 120; refine (g2.out.next o (by have := HLL.out; rw [List.length_drop]; omega) X2.out).mono ?_; rintro e w3 ⟨rfl, g3, t3⟩; have T3 := Lib.hid ((t1.out.trans t2.out).trans t3.out); have R3 : Hid (RP b6 w3 u7 (ptsD o j l)) := Lib.hid (R_two HR.out T3.out hg6.out.2.1 hg6.out.2.2.1); have Z3 := Lib.hid (Nat.le_trans HZ.out T3.out.2.2.2.1); have X3 := Lib.hid (X2.out.two t3.out hg3.out.1 hg3.out.2.1 hg3.out.2.2))
        | (go_at_call 120; refine (g1.out.next o (by have := HLL.out; omega) X1.out).mono ?_; rintro e w2 ⟨rfl, g2, t2⟩; have X2 := Lib.hid (X1.out.two t2.out hg3.out.1 hg3.out.2.1 hg3.out.2.2))
        | (go_at_call 75; refine (HG.out.ok).mono ?_; rintro e w1 ⟨rfl, g1, t1⟩; have X1 := Lib.hid (HX.out.two t1.out hg3.out.1 hg3.out.2.1 hg3.out.2.2)))
      go_roundw
      case rel =>
        refine ⟨j + 1, by rw [show ((j + 1 : Nat) : Int) = (j : Int) + 1 by omega]; congr 1; omega, by have := HJ.out; omega, Lib.hid ?_, Lib.hid ?_, Lib.hid ((HT.out.trans T3.out).under hb4.out (by have := HB3.out; have := hg3.out; have := hg6.out; omega)), Lib.hid ?_, Lib.hid ?_⟩
        · have := h4.out
          rw [← HD.out] at this
          rw [MRead.ptsD_add]
          exact this
        · have := g3.out.under hb4.out hg6.out.2.1 hg6.out.2.2.1
          rw [List.drop_drop, ← HD.out, List.drop_drop] at this
          exact this
        · exact ⟨(hb4.out.block _ (by have := hg3.out; have := hg6.out; omega)).trans X3.out.1, (hb4.out.block _ (by have := hg6.out; omega)).trans X3.out.2⟩
        · have := Z3.out; have := hb4.out.size; omega
      case measure => have := HJ.out; simp [intOf]; omega
    · have : j = k := by omega
      subst this
      clear hlt hj
      have e0 : ((j : Int) - j) = 0 := by omega
      rw [e0]
      go_wp2
      go_ret
      exact ⟨_, rfl, Lib.hid (Kd.R_lower HR.out (by have := HB3.out; have := hg3.out; have := hg6.out; omega)), HG, HT⟩
set_option maxHeartbeats 2000000 in
set_option maxRecDepth 100000 in
theorem line_none {W : World} {g q : Nat} {c : Int} (h : Bad W g q c) (o : Bool) :
    Calls Tryd.prog 115 #[.pointer (some ⟨g, 0, none⟩), .int .i64 0, .bool o] W fun ex W' => ∃ v, ex = .returned (.iface 157 v) ∧ Hid (RP W.heap.size W' v []) ∧ Hid (Bad W' g q c) ∧ Hid (Two W W' g q) := by
  have H := Lib.hid h
  have HLT := Lib.hid h.lt
  clear h
  have S := (Blk.new W #[.pointer (some ⟨g, 0, none⟩)] 103).alloc (.cells #[.bool o] 4)
  have R := Blk.new_at (W := W.alloc (.cells #[.pointer (some ⟨g, 0, none⟩)] 103)) (g := W.heap.size + 1) (by simp) #[.bool o] 4
  have HB : Hid (Bel W ((W.alloc (.cells #[.pointer (some ⟨g, 0, none⟩)] 103)).alloc (.cells #[.bool o] 4))) := Lib.hid (by repeat (first | exact Below.refl _ _ | refine Below.alloc ?_ (by simp <;> omega) _))
  go_enter Tryd.func115, Tryd.ntmps115
  go_upto_region 1 with (fail)
  obtain ⟨W1, hW⟩ : ∃ X, (W.alloc (.cells #[.pointer (some ⟨g, 0, none⟩)] 103)).alloc (.cells #[.bool o] 4) = X := ⟨_, rfl⟩
  rw [hW] at S R HB ⊢
  clear hW
  obtain ⟨b3, hb3⟩ : ∃ b, W.heap.size = b := ⟨_, rfl⟩
  have HB3 := Lib.hid hb3
  rw [hb3] at S R ⊢
  obtain ⟨b5, hb5⟩ : ∃ b, b3 + 1 = b := ⟨_, rfl⟩
  have HB5 := Lib.hid hb5
  rw [hb5] at R ⊢
  clear hb3 hb5
  go_wp2
  have hg3 : Hid (g < b3 ∧ q < b3 ∧ b3 < b5) := Lib.hid ⟨by have := HLT.out.1; have := HB3.out; omega, by have := HLT.out.2; have := HB3.out; omega, by have := HB5.out; omega⟩
  obtain ⟨b6, hb6⟩ : ∃ b, b5 + 1 = b := ⟨_, rfl⟩
  have hg6 : Hid (b5 < b6 ∧ g < b6 ∧ q < b6 ∧ b6 ≤ W1.heap.size) := Lib.hid ⟨by omega, by have := hg3.out; omega, by have := hg3.out; omega, by have := R.lt; omega⟩
  clear hb6
  have HX0 : Hid (Bx2 W1 b3 b5 g o) := Lib.hid ⟨S, R⟩
  clear S R
  have HS : Hid (Bad W1 g q c) := Lib.hid (H.out.bel HB.out)
  go_loopw [1, 7] (fun i v wr => i = .int .i64 0 ∧ v = .slice none 0 0 ∧ wr = W1) (fun i _ _ => (intOf i).toNat)
  case atStart => exact ⟨rfl, rfl, rfl⟩
  case round =>
    obtain ⟨rfl, rfl, rfl⟩ := hrel
    have c3 : wr.cell? ⟨b3, 0, none⟩ = some (.pointer (some ⟨g, 0, none⟩)) := HX0.out.1.cell 0 rfl
    go_wp2
    go_ret
    exact ⟨_, rfl, Lib.hid (Kd.R_nil _ _ _ _ _), HS, Lib.hid (Two.of_bel g q HB.out)⟩
set_option maxHeartbeats 2000000 in
set_option maxRecDepth 100000 in
theorem line_short {W : World} {g q : Nat} {l : List Int} {p n : Int} (h : Gd W g q l p n) (o : Bool) (hl : l.length < 16) :
    Calls Tryd.prog 115 #[.pointer (some ⟨g, 0, none⟩), .int .i64 1, .bool o] W fun ex W' => ∃ v pt, ex = .returned (.iface 157 v) ∧ Hid (RP W.heap.size W' v [pt]) ∧ Hid (Bs W' g q) ∧ Hid (Two W W' g q) := by
  have H := Lib.hid h
  have HL := Lib.hid hl
  have HLT := Lib.hid h.lt
  clear h hl
  have S := (Blk.new W #[.pointer (some ⟨g, 0, none⟩)] 103).alloc (.cells #[.bool o] 4)
  have R := Blk.new_at (W := W.alloc (.cells #[.pointer (some ⟨g, 0, none⟩)] 103)) (g := W.heap.size + 1) (by simp) #[.bool o] 4
  have HB : Hid (Bel W ((W.alloc (.cells #[.pointer (some ⟨g, 0, none⟩)] 103)).alloc (.cells #[.bool o] 4))) := Lib.hid (by repeat (first | exact Below.refl _ _ | refine Below.alloc ?_ (by simp <;> omega) _))
  go_enter Tryd.func115, Tryd.ntmps115
  go_upto_region 1 with (fail)
  obtain ⟨W1, hW⟩ : ∃ X, (W.alloc (.cells #[.pointer (some ⟨g, 0, none⟩)] 103)).alloc (.cells #[.bool o] 4) = X := ⟨_, rfl⟩
  rw [hW] at S R HB ⊢
  clear hW
  obtain ⟨b3, hb3⟩ : ∃ b, W.heap.size = b := ⟨_, rfl⟩
  have HB3 := Lib.hid hb3
  rw [hb3] at S R ⊢
  obtain ⟨b5, hb5⟩ : ∃ b, b3 + 1 = b := ⟨_, rfl⟩
  have HB5 := Lib.hid hb5
  rw [hb5] at R ⊢
  clear hb3 hb5
  go_wp2
  have hg3 : Hid (g < b3 ∧ q < b3 ∧ b3 < b5) := Lib.hid ⟨by have := HLT.out.1; have := HB3.out; omega, by have := HLT.out.2; have := HB3.out; omega, by have := HB5.out; omega⟩
  obtain ⟨b6, hb6⟩ : ∃ b, b5 + 1 = b := ⟨_, rfl⟩
  have hg6 : Hid (b5 < b6 ∧ g < b6 ∧ q < b6 ∧ b6 ≤ W1.heap.size) := Lib.hid ⟨by omega, by have := hg3.out; omega, by have := hg3.out; omega, by have := R.lt; omega⟩
  clear hb6
  have HX0 : Hid (Bx2 W1 b3 b5 g o) := Lib.hid ⟨S, R⟩
  clear S R
  have HS : Hid (Gd W1 g q l p n) := Lib.hid (H.out.bel HB.out)
  go_loopw [1, 7] (fun i v wr => (i = .int .i64 1 ∧ v = .slice none 0 0 ∧ wr = W1) ∨ ∃ A cc pt, i = .int .i64 0 ∧ v = .slice A 1 cc ∧ Hid (RP b6 wr (.slice A 1 cc) [pt]) ∧ Hid (Bs wr g q) ∧ Hid (Two W wr g q) ∧ Hid (Bx2 wr b3 b5 g o)) (fun i _ _ => (intOf i).toNat)
  case atStart => exact .inl ⟨rfl, rfl, rfl⟩
  case round =>
    rcases hrel with ⟨rfl, rfl, rfl⟩ | ⟨A, cc, pt, rfl, rfl, HR, HG, HT, HX⟩
    · have HX := HX0
      have HR : Hid (RP b6 wr (.slice none 0 0) []) := Lib.hid (Kd.R_nil _ _ _ _ _)
      have c3 : wr.cell? ⟨b3, 0, none⟩ = some (.pointer (some ⟨g, 0, none⟩)) := HX.out.1.cell 0 rfl
      by_cases h8 : l.length < 8
      · have H8 := Lib.hid h8
        clear h8
        go_wp2_with (first
          | (at_builtin; refine appDot (B := b6) (.tmp 21) (.tmp 26) rfl rfl (.slice none 0 0) [] (0, 0) rfl rfl R3.out Z3.out (by simp) ?_; intro v1 w4 h4 hb4)
          | (go_at_call 120; refine (g2.out.next o X2.out).mono ?_; rintro e w3 ⟨rfl, g3, t3⟩; have T3 := Lib.hid ((t1.out.trans t2.out).trans t3.out); have R3 : Hid (RP b6 w3 (.slice none 0 0) []) := Lib.hid (R_two HR.out T3.out hg6.out.2.1 hg6.out.2.2.1); have Z3 := Lib.hid (Nat.le_trans hg6.out.2.2.2 T3.out.2.2.2.1); have X3 := Lib.hid (X2.out.two t3.out hg3.out.1 hg3.out.2.1 hg3.out.2.2))
          | (go_at_call 120; refine (g1.out.nextnt o H8.out X1.out).mono ?_; rintro e w2 ⟨rfl, g2, t2⟩; have X2 := Lib.hid (X1.out.two t2.out hg3.out.1 hg3.out.2.1 hg3.out.2.2))
          | (go_at_call 75; refine (HS.out.ok).mono ?_; rintro e w1 ⟨rfl, g1, t1⟩; have X1 := Lib.hid (HX.out.two t1.out hg3.out.1 hg3.out.2.1 hg3.out.2.2)))
        obtain ⟨A, cc, hv, -, -⟩ := Kd.R_reads h4.out
        have hv' : v1 = .slice A 1 cc := hv
        subst hv'
        go_roundw
        case rel => exact .inr ⟨A, cc, _, by simp, rfl, h4, Lib.hid (g3.out.under hb4.out hg6.out.2.1 hg6.out.2.2.1), Lib.hid (((Two.of_bel g q HB.out).trans T3.out).under hb4.out (by have := HB3.out; have := hg3.out; have := hg6.out; omega)), Lib.hid ⟨(hb4.out.block _ (by have := hg3.out; have := hg6.out; omega)).trans X3.out.1, (hb4.out.block _ (by have := hg6.out; omega)).trans X3.out.2⟩⟩
        case measure => simp [intOf]
      · have H8 := Lib.hid h8
        clear h8
        go_wp2_with (first
          | (at_builtin; refine appDot (B := b6) (.tmp 21) (.tmp 26) rfl rfl (.slice none 0 0) [] (MRead.wrapI (getV l 8 o).1, 0) rfl rfl R3.out Z3.out (by simp) ?_; intro v1 w4 h4 hb4)
          | (go_at_call 120; refine (g2.out.nextnt o (by rw [List.length_drop]; have := HL.out; have := H8.out; omega) X2.out).mono ?_; rintro e w3 ⟨rfl, g3, t3⟩; have T3 := Lib.hid ((t1.out.trans t2.out).trans t3.out); have R3 : Hid (RP b6 w3 (.slice none 0 0) []) := Lib.hid (R_two HR.out T3.out hg6.out.2.1 hg6.out.2.2.1); have Z3 := Lib.hid (Nat.le_trans hg6.out.2.2.2 T3.out.2.2.2.1); have X3 := Lib.hid (X2.out.two t3.out hg3.out.1 hg3.out.2.1 hg3.out.2.2))
          | (go_at_call 120; refine (g1.out.next o H8.out X1.out).mono ?_; rintro e w2 ⟨rfl, g2, t2⟩; have X2 := Lib.hid (X1.out.two t2.out hg3.out.1 hg3.out.2.1 hg3.out.2.2))
          | (go_at_call 75; refine (HS.out.ok).mono ?_; rintro e w1 ⟨rfl, g1, t1⟩; have X1 := Lib.hid (HX.out.two t1.out hg3.out.1 hg3.out.2.1 hg3.out.2.2)))
        obtain ⟨A, cc, hv, -, -⟩ := Kd.R_reads h4.out
        have hv' : v1 = .slice A 1 cc := hv
        subst hv'
        go_roundw
        case rel => exact .inr ⟨A, cc, _, by simp, rfl, h4, Lib.hid (g3.out.under hb4.out hg6.out.2.1 hg6.out.2.2.1), Lib.hid (((Two.of_bel g q HB.out).trans T3.out).under hb4.out (by have := HB3.out; have := hg3.out; have := hg6.out; omega)), Lib.hid ⟨(hb4.out.block _ (by have := hg3.out; have := hg6.out; omega)).trans X3.out.1, (hb4.out.block _ (by have := hg6.out; omega)).trans X3.out.2⟩⟩
        case measure => simp [intOf]
    · have c3 : wr.cell? ⟨b3, 0, none⟩ = some (.pointer (some ⟨g, 0, none⟩)) := HX.out.1.cell 0 rfl
      go_wp2
      go_ret
      exact ⟨_, pt, rfl, Lib.hid (Kd.R_lower HR.out (by have := HB3.out; have := hg3.out; have := hg6.out; omega)), HG, HT⟩
end Go.Proofs.YtfknhpgelleenaaDoor.K
namespace Go.Proofs.YtfknhpgelleenaaDoor.K
open Go Go.RowKit Go.Proofs.YtfknhpgelleenaaDoorW.PrintWords Go.Proofs.YtfknhpgelleenaaDoorW.PrintLast Go.Proofs.YtfknhpgelleenaaDoorW.PrintMore
set_option linter.unusedVariables false
set_option linter.unusedSimpArgs false
open Go.Proofs.YtfknhpgelleenaaDoor.MOct (getV head)
open Go.Proofs.YtfknhpgelleenaaDoor.MRead (ptD ptsD runS oneS)
theorem assertDots (v : Value) (W : World) : (Instr.typeAssert (.iface 157 v) 112 157 true).run Tryd.prog W = .ok (.tuple #[v, .bool true]) W := by
  simp [Instr.typeAssert, go_sem, run_underlying Tryd.underlying157]
theorem assertBody (v : Value) (W : World) : (Instr.typeAssert (.iface 109 v) 112 109 true).run Tryd.prog W = .ok (.tuple #[v, .bool true]) W := by
  simp [Instr.typeAssert, go_sem, run_underlying Tryd.underlying109]
set_option maxHeartbeats 1000000 in
set_option maxRecDepth 100000 in
theorem rpts_calls (W : World) (A : Option Addr) (n c : Nat) :
    Calls Tryd.prog 96 #[.iface 157 (.slice A n c)] W fun ex W' => ex = .returned (.slice A n c) ∧ W = W' := by
  have hA := assertDots
  go_enter Tryd.func96, Tryd.ntmps96
  go_wp2
  go_ret
  exact ⟨rfl, rfl⟩
set_option maxHeartbeats 1000000 in
set_option maxRecDepth 100000 in
theorem run_ok {W : World} {g q : Nat} {l l' : List Int} {p n p' n' : Int} {pts : List (Int × Int)} (h : Gd W g q l p n) (o : Bool) (hr : runS o l p n = .ok pts l' p' n') :
    Calls Tryd.prog 97 #[.pointer (some ⟨g, 0, none⟩), .bool o] W fun ex W' => ∃ v, ex = .returned (.iface 157 v) ∧ Hid (RP W.heap.size W' v pts) ∧ Hid (Gd W' g q l' p' n') ∧ Hid (Two W W' g q) := by
  unfold runS at hr
  cases hn : MRead.numberS 16 o false 4000 l p n with
  | bad c => rw [hn] at hr; cases hr
  | ok v l1 p1 n1 =>
    rw [hn] at hr
    injection hr with e1 e2 e3 e4
    subst e1 e2 e3 e4
    have HN := Lib.hid (numP16_ok h o hn)
    obtain ⟨hl4, hv4, hrm, rfl, rfl, -, -⟩ := MRead.number_ok hn
    have hv0 := (getV4_in h.rd.byt o hl4).2.1
    have hp := h.p0
    obtain ⟨k, hk⟩ : ∃ k : Nat, (getV l 4 o).1 = k := ⟨(getV l 4 o).1.toNat, by omega⟩
    rw [hk] at HN hrm hv4 ⊢
    have HK := Lib.hid (show 16 * k ≤ (l.drop 4).length ∧ k ≤ 100000 from ⟨by omega, by simp at hv4; omega⟩)
    clear hn hl4 hv4 hrm hv0 hp hk h
    obtain ⟨m, hm⟩ : ∃ m, l.drop 4 = m := ⟨_, rfl⟩
    rw [hm] at HN HK ⊢
    clear hm
    rw [Int.toNat_natCast]
    go_enter Tryd.func97, Tryd.ntmps97
    go_wp2_with (first
      | (go_at_call 115; refine (line_good h1.out o k HK.out.1 HK.out.2).mono ?_; rintro e w2 ⟨v, rfl, hR, h3, h4⟩)
      | (go_at_call 117; refine (HN.out).mono ?_; rintro e w1 ⟨rfl, h1, h2⟩))
    go_ret
    exact ⟨_, rfl, Lib.hid (Kd.R_lower hR.out h2.out.2.2.2.1), h3, Lib.hid (h2.out.trans h4.out)⟩
set_option maxHeartbeats 1000000 in
set_option maxRecDepth 100000 in
theorem run_bad {W : World} {g q : Nat} {l : List Int} {p n c : Int} (h : Gd W g q l p n) (o : Bool) (hr : runS o l p n = .bad c) :
    Calls Tryd.prog 97 #[.pointer (some ⟨g, 0, none⟩), .bool o] W fun ex W' => ∃ v, ex = .returned (.iface 157 v) ∧ Hid (RP W.heap.size W' v []) ∧ Hid (Bad W' g q c) ∧ Hid (Two W W' g q) := by
  unfold runS at hr
  cases hn : MRead.numberS 16 o false 4000 l p n with
  | ok v l1 p1 n1 => rw [hn] at hr; cases hr
  | bad c' =>
    rw [hn] at hr
    injection hr with e1
    subst e1
    have HN := Lib.hid (numP16_bad h o hn)
    clear hn h
    go_enter Tryd.func97, Tryd.ntmps97
    go_wp2_with (first
      | (go_at_call 115; refine (line_none h1.out o).mono ?_; rintro e w2 ⟨v, rfl, hR, h3, h4⟩)
      | (go_at_call 117; refine (HN.out).mono ?_; rintro e w1 ⟨rfl, h1, h2⟩))
    go_ret
    exact ⟨_, rfl, Lib.hid (Kd.R_lower hR.out h2.out.2.2.2.1), h3, Lib.hid (h2.out.trans h4.out)⟩
end Go.Proofs.YtfknhpgelleenaaDoor.K
namespace Go.Proofs.YtfknhpgelleenaaDoor.K
open Go Go.RowKit Go.Proofs.YtfknhpgelleenaaDoorW.PrintWords Go.Proofs.YtfknhpgelleenaaDoorW.PrintLast Go.Proofs.YtfknhpgelleenaaDoorW.PrintMore
set_option linter.unusedVariables false
set_option linter.unusedSimpArgs false
open Go.Proofs.YtfknhpgelleenaaDoor.MRead (ptD ptsD runS oneS)
attribute [local go_sem] undef
theorem NowAt.two {W W' : World} {g q : Nat} (h : NowAt W) (ht : Two W W' g q) (hg : 2 ≤ g) (hq : 2 ≤ q) (hs : 2 ≤ W.heap.size) : NowAt W' :=
  ⟨(World.cell?_of_block (ht.2.2.2.2 1 (by omega) (by omega) (by omega))).trans h.1, (World.cell?_of_block (ht.2.2.2.2 1 (by omega) (by omega) (by omega))).trans h.2⟩
/-- The cells of the one point of a row. -/
theorem RP.cells1 {B : Nat} {W : World} {v : Value} {pt : Int × Int} (h : RP B W v [pt]) : ∃ b off c, v = .slice (some ⟨b, off, none⟩) 1 c ∧ 1 ≤ c ∧ B ≤ b ∧ W.cell? ⟨b, off, none⟩ = some (.int .i64 pt.1) ∧ W.cell? ⟨b, off + 1, none⟩ = some (.int .i64 pt.2) := by
  obtain ⟨A, c, rfl, hc, hC⟩ := Kd.R_reads h
  obtain ⟨A', c', e, hc', hm, hx⟩ := ptsB_of hc (by simp) hC
  injection e with e1 e2 e3
  subst e1 e3
  obtain ⟨b, off, rfl, _, h1, h2⟩ := hx 0 (by simp)
  have hb := Kd.R_base h b rfl
  exact ⟨b, off, c, rfl, hc, hb, by simpa using h1, by simpa using h2⟩
set_option maxHeartbeats 1000000 in
set_option maxRecDepth 100000 in
theorem one_short {W : World} {g q : Nat} {l : List Int} {p n : Int} (h : Gd W g q l p n) (o : Bool) (hl : l.length < 16) :
    Calls Tryd.prog 95 #[.pointer (some ⟨g, 0, none⟩), .bool o] W fun ex W' => ∃ v, ex = .returned v ∧ Hid (RP W.heap.size W' v []) ∧ Hid (Bad W' g q 8) ∧ Hid (Two W W' g q) := by
  have H := Lib.hid (line_short h o hl)
  clear h hl
  go_enter Tryd.func95, Tryd.ntmps95
  go_upto_region 2 with (first
    | (go_at_call 96; refine (rpts_calls w1 _ _ _).mono ?_; rintro e w9 ⟨rfl, rfl⟩)
    | (go_at_call 115; refine (H.out).mono ?_; rintro e w1 ⟨v, pt, rfl, hR, h1, h2⟩; obtain ⟨b, off, c, rfl, hc, hb, x0, x1⟩ := hR.out.cells1))
  first
    | go_region_law (first
        | (go_simp; go_at_call 75; refine (((h1.out.bel (Bel.drew _)).bad).ok).mono ?_; rintro e w7 ⟨rfl, h7, t7⟩))
    | fail
  all_goals
    go_wp2
    go_ret
    exact ⟨_, rfl, Lib.hid (Kd.R_nil _ _ _ _ _), Lib.hid h7.out.1, Lib.hid ((h2.out.trans (Two.of_bel g q (Bel.drew _))).trans t7.out)⟩
set_option maxHeartbeats 1000000 in
set_option maxRecDepth 100000 in
theorem one_nw {W : World} {g q : Nat} {l : List Int} {p n : Int} (h : Gd W g q l p n) (o : Bool) (hN : NowAt W) (hl : ¬ l.length < 16) (hpt : ptD o l = ((-9223372036854775808), (-9223372036854775808)))  :
    Calls Tryd.prog 95 #[.pointer (some ⟨g, 0, none⟩), .bool o] W fun ex W' => ∃ v, ex = .returned v ∧ Hid (RP W.heap.size W' v []) ∧ Hid (Gd W' g q (l.drop 16) p n) ∧ Hid (Two W W' g q) := by
  have H := Lib.hid (line_good h o 1 (by omega) (by omega))
  have HN := Lib.hid hN
  have HB2 : Hid (2 ≤ g ∧ 2 ≤ q ∧ g < W.heap.size ∧ q < W.heap.size) := Lib.hid ⟨h.rd.g2, h.rd.q2, h.lt.1, h.lt.2⟩
  have HP := Lib.hid (show 0 ≤ p ∧ p ≤ 4000 from ⟨h.p0, h.p1⟩)
  have e1 : ptsD o 1 l = [((-9223372036854775808), (-9223372036854775808))] := by rw [← hpt]; rfl
  rw [e1] at H
  skip
  clear h hl hN e1 hpt
  go_enter Tryd.func95, Tryd.ntmps95
  go_upto_region 2 with (first
    | (go_at_call 96; refine (rpts_calls w1 _ _ _).mono ?_; rintro e w9 ⟨rfl, rfl⟩)
    | (go_at_call 115; refine (H.out).mono ?_; rintro e w1 ⟨v, rfl, hR, h1, h2⟩; obtain ⟨b, off, c, rfl, hc, hb, x0, x1⟩ := hR.out.cells1; have HBB := Lib.hid hb; clear hb))
  have N1 := Lib.hid (HN.out.two h2.out HB2.out.1 HB2.out.2.1 (by have := HB2.out; omega))
  have Z1 := Lib.hid (Nat.lt_of_lt_of_le HB2.out.2.2.1 h2.out.2.2.2.1)
  have LB := Lib.hid (World.block_lt_of_cell? _ _ x0)
  go_region_law (first
    | (go_simp; go_at_call 75; refine ((h1.out.bel (Bel.drew _)).ok).mono ?_; rintro e w7 ⟨rfl, h7, t7⟩
       have T7 := Lib.hid ((Two.of_bel g q (Bel.drew w1)).trans t7.out)
       have kb : w7.heap[b]? = w1.heap[b]? := T7.out.2.2.2.2 b LB.out (by have := HB2.out; have := HBB.out; omega) (by have := HB2.out; have := HBB.out; omega)
       have y0 : w7.cell? ⟨b, off, none⟩ = some (.int .i64 (-9223372036854775808)) := (World.cell?_of_block kb).trans x0
       have y1 : w7.cell? ⟨b, off + 1, none⟩ = some (.int .i64 (-9223372036854775808)) := (World.cell?_of_block kb).trans x1
       have N7 := N1.out.two T7.out HB2.out.1 HB2.out.2.1 (by have := HB2.out; have := Z1.out; omega)
       obtain ⟨m0, m1⟩ := N7
       clear kb))
  all_goals
    have R7 : Hid (RP W.heap.size w7 (.slice (some ⟨b, off, none⟩) 1 c) [((-9223372036854775808), (-9223372036854775808))]) := Lib.hid (R_two hR.out T7.out HB2.out.2.2.1 HB2.out.2.2.2)
    have U7 := Lib.hid (h2.out.trans T7.out)
    clear x0 x1 y0 y1 m0 m1
    go_wp2
    go_ret
    exact ⟨_, rfl, Lib.hid (Kd.R_nil _ _ _ _ _), h7, U7⟩
set_option maxHeartbeats 1000000 in
set_option maxRecDepth 100000 in
theorem one_fx_ok {W : World} {g q : Nat} {l : List Int} {p n x y : Int} (h : Gd W g q l p n) (o : Bool) (hN : NowAt W) (hl : ¬ l.length < 16) (hpt : ptD o l = (x, y)) (hx : ¬ x = -9223372036854775808) (hp : p + 1 ≤ 4000) :
    Calls Tryd.prog 95 #[.pointer (some ⟨g, 0, none⟩), .bool o] W fun ex W' => ∃ v, ex = .returned v ∧ Hid (RP W.heap.size W' v [(x, y)]) ∧ Hid (Gd W' g q (l.drop 16) (p + 1) n) ∧ Hid (Two W W' g q) := by
  have H := Lib.hid (line_good h o 1 (by omega) (by omega))
  have HN := Lib.hid hN
  have HB2 : Hid (2 ≤ g ∧ 2 ≤ q ∧ g < W.heap.size ∧ q < W.heap.size) := Lib.hid ⟨h.rd.g2, h.rd.q2, h.lt.1, h.lt.2⟩
  have HP := Lib.hid (show 0 ≤ p ∧ p ≤ 4000 from ⟨h.p0, h.p1⟩)
  have e1 : ptsD o 1 l = [(x, y)] := by rw [← hpt]; rfl
  rw [e1] at H
  have HQ := Lib.hid hp; clear hp
  clear h hl hN e1 hpt
  go_enter Tryd.func95, Tryd.ntmps95
  go_upto_region 2 with (first
    | (go_at_call 96; refine (rpts_calls w1 _ _ _).mono ?_; rintro e w9 ⟨rfl, rfl⟩)
    | (go_at_call 115; refine (H.out).mono ?_; rintro e w1 ⟨v, rfl, hR, h1, h2⟩; obtain ⟨b, off, c, rfl, hc, hb, x0, x1⟩ := hR.out.cells1; have HBB := Lib.hid hb; clear hb))
  have N1 := Lib.hid (HN.out.two h2.out HB2.out.1 HB2.out.2.1 (by have := HB2.out; omega))
  have Z1 := Lib.hid (Nat.lt_of_lt_of_le HB2.out.2.2.1 h2.out.2.2.2.1)
  have LB := Lib.hid (World.block_lt_of_cell? _ _ x0)
  go_region_law (first
    | (go_simp; go_at_call 75; refine ((h1.out.bel (Bel.drew _)).ok).mono ?_; rintro e w7 ⟨rfl, h7, t7⟩
       have T7 := Lib.hid ((Two.of_bel g q (Bel.drew w1)).trans t7.out)
       have kb : w7.heap[b]? = w1.heap[b]? := T7.out.2.2.2.2 b LB.out (by have := HB2.out; have := HBB.out; omega) (by have := HB2.out; have := HBB.out; omega)
       have y0 : w7.cell? ⟨b, off, none⟩ = some (.int .i64 x) := (World.cell?_of_block kb).trans x0
       have y1 : w7.cell? ⟨b, off + 1, none⟩ = some (.int .i64 y) := (World.cell?_of_block kb).trans x1
       have N7 := N1.out.two T7.out HB2.out.1 HB2.out.2.1 (by have := HB2.out; have := Z1.out; omega)
       obtain ⟨m0, m1⟩ := N7
       clear kb))
  all_goals
    have R7 : Hid (RP W.heap.size w7 (.slice (some ⟨b, off, none⟩) 1 c) [(x, y)]) := Lib.hid (R_two hR.out T7.out HB2.out.2.2.1 HB2.out.2.2.2)
    have U7 := Lib.hid (h2.out.trans T7.out)
    clear x0 x1 y0 y1 m0 m1
    go_wp2_with (go_at_call 116; refine (metP_ok w7 g q _ p n 1 4000 h7.out.rd HQ.out HP.out.1 HP.out.2 (by omega) (by omega)).mono ?_; rintro e w8 ⟨rfl, h8, t8⟩)
    go_ret
    have := HP.out; have := HQ.out
    exact ⟨_, rfl, Lib.hid (R_two R7.out t8.out HB2.out.2.2.1 HB2.out.2.2.2), Lib.hid ⟨h8.out, by omega, by omega, h7.out.n0, h7.out.n1, h7.out.len⟩, Lib.hid (U7.out.trans t8.out)⟩
set_option maxHeartbeats 1000000 in
set_option maxRecDepth 100000 in
theorem one_fx_no {W : World} {g q : Nat} {l : List Int} {p n x y : Int} (h : Gd W g q l p n) (o : Bool) (hN : NowAt W) (hl : ¬ l.length < 16) (hpt : ptD o l = (x, y)) (hx : ¬ x = -9223372036854775808) (hp : 4000 < p + 1) :
    Calls Tryd.prog 95 #[.pointer (some ⟨g, 0, none⟩), .bool o] W fun ex W' => ∃ v, ex = .returned v ∧ Hid (RP W.heap.size W' v [(x, y)]) ∧ Hid (Bad W' g q 12) ∧ Hid (Two W W' g q) := by
  have H := Lib.hid (line_good h o 1 (by omega) (by omega))
  have HN := Lib.hid hN
  have HB2 : Hid (2 ≤ g ∧ 2 ≤ q ∧ g < W.heap.size ∧ q < W.heap.size) := Lib.hid ⟨h.rd.g2, h.rd.q2, h.lt.1, h.lt.2⟩
  have HP := Lib.hid (show 0 ≤ p ∧ p ≤ 4000 from ⟨h.p0, h.p1⟩)
  have e1 : ptsD o 1 l = [(x, y)] := by rw [← hpt]; rfl
  rw [e1] at H
  have HQ := Lib.hid hp; clear hp
  clear h hl hN e1 hpt
  go_enter Tryd.func95, Tryd.ntmps95
  go_upto_region 2 with (first
    | (go_at_call 96; refine (rpts_calls w1 _ _ _).mono ?_; rintro e w9 ⟨rfl, rfl⟩)
    | (go_at_call 115; refine (H.out).mono ?_; rintro e w1 ⟨v, rfl, hR, h1, h2⟩; obtain ⟨b, off, c, rfl, hc, hb, x0, x1⟩ := hR.out.cells1; have HBB := Lib.hid hb; clear hb))
  have N1 := Lib.hid (HN.out.two h2.out HB2.out.1 HB2.out.2.1 (by have := HB2.out; omega))
  have Z1 := Lib.hid (Nat.lt_of_lt_of_le HB2.out.2.2.1 h2.out.2.2.2.1)
  have LB := Lib.hid (World.block_lt_of_cell? _ _ x0)
  go_region_law (first
    | (go_simp; go_at_call 75; refine ((h1.out.bel (Bel.drew _)).ok).mono ?_; rintro e w7 ⟨rfl, h7, t7⟩
       have T7 := Lib.hid ((Two.of_bel g q (Bel.drew w1)).trans t7.out)
       have kb : w7.heap[b]? = w1.heap[b]? := T7.out.2.2.2.2 b LB.out (by have := HB2.out; have := HBB.out; omega) (by have := HB2.out; have := HBB.out; omega)
       have y0 : w7.cell? ⟨b, off, none⟩ = some (.int .i64 x) := (World.cell?_of_block kb).trans x0
       have y1 : w7.cell? ⟨b, off + 1, none⟩ = some (.int .i64 y) := (World.cell?_of_block kb).trans x1
       have N7 := N1.out.two T7.out HB2.out.1 HB2.out.2.1 (by have := HB2.out; have := Z1.out; omega)
       obtain ⟨m0, m1⟩ := N7
       clear kb))
  all_goals
    have R7 : Hid (RP W.heap.size w7 (.slice (some ⟨b, off, none⟩) 1 c) [(x, y)]) := Lib.hid (R_two hR.out T7.out HB2.out.2.2.1 HB2.out.2.2.2)
    have U7 := Lib.hid (h2.out.trans T7.out)
    clear x0 x1 y0 y1 m0 m1
    go_wp2_with (go_at_call 116; refine (metP_no w7 g q _ p n 1 4000 h7.out.rd HQ.out HP.out.1 HP.out.2 (by omega) (by omega)).mono ?_; rintro e w8 ⟨rfl, h8, t8⟩)
    go_ret
    exact ⟨_, rfl, Lib.hid (R_two R7.out t8.out HB2.out.2.2.1 HB2.out.2.2.2), Lib.hid (Bad.mk' h8.out rfl (by decide)), Lib.hid (U7.out.trans t8.out)⟩
set_option maxHeartbeats 1000000 in
set_option maxRecDepth 100000 in
theorem one_fy_ok {W : World} {g q : Nat} {l : List Int} {p n y : Int} (h : Gd W g q l p n) (o : Bool) (hN : NowAt W) (hl : ¬ l.length < 16) (hpt : ptD o l = ((-9223372036854775808), y)) (hx : ¬ y = -9223372036854775808) (hp : p + 1 ≤ 4000) :
    Calls Tryd.prog 95 #[.pointer (some ⟨g, 0, none⟩), .bool o] W fun ex W' => ∃ v, ex = .returned v ∧ Hid (RP W.heap.size W' v [((-9223372036854775808), y)]) ∧ Hid (Gd W' g q (l.drop 16) (p + 1) n) ∧ Hid (Two W W' g q) := by
  have H := Lib.hid (line_good h o 1 (by omega) (by omega))
  have HN := Lib.hid hN
  have HB2 : Hid (2 ≤ g ∧ 2 ≤ q ∧ g < W.heap.size ∧ q < W.heap.size) := Lib.hid ⟨h.rd.g2, h.rd.q2, h.lt.1, h.lt.2⟩
  have HP := Lib.hid (show 0 ≤ p ∧ p ≤ 4000 from ⟨h.p0, h.p1⟩)
  have e1 : ptsD o 1 l = [((-9223372036854775808), y)] := by rw [← hpt]; rfl
  rw [e1] at H
  have HQ := Lib.hid hp; clear hp
  clear h hl hN e1 hpt
  go_enter Tryd.func95, Tryd.ntmps95
  go_upto_region 2 with (first
    | (go_at_call 96; refine (rpts_calls w1 _ _ _).mono ?_; rintro e w9 ⟨rfl, rfl⟩)
    | (go_at_call 115; refine (H.out).mono ?_; rintro e w1 ⟨v, rfl, hR, h1, h2⟩; obtain ⟨b, off, c, rfl, hc, hb, x0, x1⟩ := hR.out.cells1; have HBB := Lib.hid hb; clear hb))
  have N1 := Lib.hid (HN.out.two h2.out HB2.out.1 HB2.out.2.1 (by have := HB2.out; omega))
  have Z1 := Lib.hid (Nat.lt_of_lt_of_le HB2.out.2.2.1 h2.out.2.2.2.1)
  have LB := Lib.hid (World.block_lt_of_cell? _ _ x0)
  go_region_law (first
    | (go_simp; go_at_call 75; refine ((h1.out.bel (Bel.drew _)).ok).mono ?_; rintro e w7 ⟨rfl, h7, t7⟩
       have T7 := Lib.hid ((Two.of_bel g q (Bel.drew w1)).trans t7.out)
       have kb : w7.heap[b]? = w1.heap[b]? := T7.out.2.2.2.2 b LB.out (by have := HB2.out; have := HBB.out; omega) (by have := HB2.out; have := HBB.out; omega)
       have y0 : w7.cell? ⟨b, off, none⟩ = some (.int .i64 (-9223372036854775808)) := (World.cell?_of_block kb).trans x0
       have y1 : w7.cell? ⟨b, off + 1, none⟩ = some (.int .i64 y) := (World.cell?_of_block kb).trans x1
       have N7 := N1.out.two T7.out HB2.out.1 HB2.out.2.1 (by have := HB2.out; have := Z1.out; omega)
       obtain ⟨m0, m1⟩ := N7
       clear kb))
  all_goals
    have R7 : Hid (RP W.heap.size w7 (.slice (some ⟨b, off, none⟩) 1 c) [((-9223372036854775808), y)]) := Lib.hid (R_two hR.out T7.out HB2.out.2.2.1 HB2.out.2.2.2)
    have U7 := Lib.hid (h2.out.trans T7.out)
    clear x0 x1 y0 y1 m0 m1
    go_wp2_with (go_at_call 116; refine (metP_ok w7 g q _ p n 1 4000 h7.out.rd HQ.out HP.out.1 HP.out.2 (by omega) (by omega)).mono ?_; rintro e w8 ⟨rfl, h8, t8⟩)
    go_ret
    have := HP.out; have := HQ.out
    exact ⟨_, rfl, Lib.hid (R_two R7.out t8.out HB2.out.2.2.1 HB2.out.2.2.2), Lib.hid ⟨h8.out, by omega, by omega, h7.out.n0, h7.out.n1, h7.out.len⟩, Lib.hid (U7.out.trans t8.out)⟩
set_option maxHeartbeats 1000000 in
set_option maxRecDepth 100000 in
theorem one_fy_no {W : World} {g q : Nat} {l : List Int} {p n y : Int} (h : Gd W g q l p n) (o : Bool) (hN : NowAt W) (hl : ¬ l.length < 16) (hpt : ptD o l = ((-9223372036854775808), y)) (hx : ¬ y = -9223372036854775808) (hp : 4000 < p + 1) :
    Calls Tryd.prog 95 #[.pointer (some ⟨g, 0, none⟩), .bool o] W fun ex W' => ∃ v, ex = .returned v ∧ Hid (RP W.heap.size W' v [((-9223372036854775808), y)]) ∧ Hid (Bad W' g q 12) ∧ Hid (Two W W' g q) := by
  have H := Lib.hid (line_good h o 1 (by omega) (by omega))
  have HN := Lib.hid hN
  have HB2 : Hid (2 ≤ g ∧ 2 ≤ q ∧ g < W.heap.size ∧ q < W.heap.size) := Lib.hid ⟨h.rd.g2, h.rd.q2, h.lt.1, h.lt.2⟩
  have HP := Lib.hid (show 0 ≤ p ∧ p ≤ 4000 from ⟨h.p0, h.p1⟩)
  have e1 : ptsD o 1 l = [((-9223372036854775808), y)] := by rw [← hpt]; rfl
  rw [e1] at H
  have HQ := Lib.hid hp; clear hp
  clear h hl hN e1 hpt
  go_enter Tryd.func95, Tryd.ntmps95
  go_upto_region 2 with (first
    | (go_at_call 96; refine (rpts_calls w1 _ _ _).mono ?_; rintro e w9 ⟨rfl, rfl⟩)
    | (go_at_call 115; refine (H.out).mono ?_; rintro e w1 ⟨v, rfl, hR, h1, h2⟩; obtain ⟨b, off, c, rfl, hc, hb, x0, x1⟩ := hR.out.cells1; have HBB := Lib.hid hb; clear hb))
  have N1 := Lib.hid (HN.out.two h2.out HB2.out.1 HB2.out.2.1 (by have := HB2.out; omega))
  have Z1 := Lib.hid (Nat.lt_of_lt_of_le HB2.out.2.2.1 h2.out.2.2.2.1)
  have LB := Lib.hid (World.block_lt_of_cell? _ _ x0)
  go_region_law (first
    | (go_simp; go_at_call 75; refine ((h1.out.bel (Bel.drew _)).ok).mono ?_; rintro e w7 ⟨rfl, h7, t7⟩
       have T7 := Lib.hid ((Two.of_bel g q (Bel.drew w1)).trans t7.out)
       have kb : w7.heap[b]? = w1.heap[b]? := T7.out.2.2.2.2 b LB.out (by have := HB2.out; have := HBB.out; omega) (by have := HB2.out; have := HBB.out; omega)
       have y0 : w7.cell? ⟨b, off, none⟩ = some (.int .i64 (-9223372036854775808)) := (World.cell?_of_block kb).trans x0
       have y1 : w7.cell? ⟨b, off + 1, none⟩ = some (.int .i64 y) := (World.cell?_of_block kb).trans x1
       have N7 := N1.out.two T7.out HB2.out.1 HB2.out.2.1 (by have := HB2.out; have := Z1.out; omega)
       obtain ⟨m0, m1⟩ := N7
       clear kb))
  all_goals
    have R7 : Hid (RP W.heap.size w7 (.slice (some ⟨b, off, none⟩) 1 c) [((-9223372036854775808), y)]) := Lib.hid (R_two hR.out T7.out HB2.out.2.2.1 HB2.out.2.2.2)
    have U7 := Lib.hid (h2.out.trans T7.out)
    clear x0 x1 y0 y1 m0 m1
    go_wp2_with (go_at_call 116; refine (metP_no w7 g q _ p n 1 4000 h7.out.rd HQ.out HP.out.1 HP.out.2 (by omega) (by omega)).mono ?_; rintro e w8 ⟨rfl, h8, t8⟩)
    go_ret
    exact ⟨_, rfl, Lib.hid (R_two R7.out t8.out HB2.out.2.2.1 HB2.out.2.2.2), Lib.hid (Bad.mk' h8.out rfl (by decide)), Lib.hid (U7.out.trans t8.out)⟩
/-- One point, or none. -/
theorem one_ok {W : World} {g q : Nat} {l l' : List Int} {p n p' n' : Int} {pts : List (Int × Int)} (h : Gd W g q l p n) (o : Bool) (hN : NowAt W) (hr : oneS o l p n = .ok pts l' p' n') :
    Calls Tryd.prog 95 #[.pointer (some ⟨g, 0, none⟩), .bool o] W fun ex W' => ∃ v, ex = .returned v ∧ Hid (RP W.heap.size W' v pts) ∧ Hid (Gd W' g q l' p' n') ∧ Hid (Two W W' g q) := by
  unfold oneS at hr
  by_cases h1 : l.length < 16
  · rw [if_pos h1] at hr; cases hr
  rw [if_neg h1] at hr
  by_cases h2 : ptD o l = MWkb.nw
  · rw [if_pos h2] at hr
    injection hr with e1 e2 e3 e4
    subst e1 e2 e3 e4
    exact one_nw h o hN h1 h2
  rw [if_neg h2] at hr
  by_cases h3 : p + 1 > 4000
  · rw [if_pos h3] at hr; cases hr
  rw [if_neg h3] at hr
  injection hr with e1 e2 e3 e4
  subst e1 e2 e3 e4
  obtain ⟨⟨x, y⟩, hxy⟩ : ∃ z, ptD o l = z := ⟨_, rfl⟩
  rw [hxy] at h2 ⊢
  by_cases hx : x = -9223372036854775808
  · subst hx
    exact one_fy_ok h o hN h1 hxy (fun e => h2 (by rw [e]; rfl)) (by omega)
  · exact one_fx_ok h o hN h1 hxy hx (by omega)
theorem one_bad {W : World} {g q : Nat} {l : List Int} {p n c : Int} (h : Gd W g q l p n) (o : Bool) (hN : NowAt W) (hr : oneS o l p n = .bad c) :
    Calls Tryd.prog 95 #[.pointer (some ⟨g, 0, none⟩), .bool o] W fun ex W' => ∃ v, ex = .returned v ∧ Hid (∃ pts, RP W.heap.size W' v pts) ∧ Hid (Bad W' g q c) ∧ Hid (Two W W' g q) := by
  unfold oneS at hr
  by_cases h1 : l.length < 16
  · rw [if_pos h1] at hr
    injection hr with e; subst e
    refine (one_short h o h1).mono ?_
    rintro e w1 ⟨v, rfl, h2, h3, h4⟩
    exact ⟨v, rfl, Lib.hid ⟨_, h2.out⟩, h3, h4⟩
  rw [if_neg h1] at hr
  by_cases h2 : ptD o l = MWkb.nw
  · rw [if_pos h2] at hr; cases hr
  rw [if_neg h2] at hr
  by_cases h3 : p + 1 > 4000
  · rw [if_pos h3] at hr
    injection hr with e; subst e
    obtain ⟨⟨x, y⟩, hxy⟩ : ∃ z, ptD o l = z := ⟨_, rfl⟩
    rw [hxy] at h2
    by_cases hx : x = -9223372036854775808
    · subst hx
      refine (one_fy_no h o hN h1 hxy (fun e => h2 (by rw [e]; rfl)) (by omega)).mono ?_
      rintro e w1 ⟨v, rfl, h2, h3, h4⟩
      exact ⟨v, rfl, Lib.hid ⟨_, h2.out⟩, h3, h4⟩
    · refine (one_fx_no h o hN h1 hxy hx (by omega)).mono ?_
      rintro e w1 ⟨v, rfl, h2, h3, h4⟩
      exact ⟨v, rfl, Lib.hid ⟨_, h2.out⟩, h3, h4⟩
  · rw [if_neg h3] at hr; cases hr
end Go.Proofs.YtfknhpgelleenaaDoor.K
end
