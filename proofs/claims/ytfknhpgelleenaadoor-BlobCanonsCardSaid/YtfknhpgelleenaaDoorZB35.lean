/- What a claim leans on, part 35, cut by a program out of the texts RD2. -/
import Derived.Handy
import Derived.IntWalk
import Derived.Deep.RegionLaw
import Derived.Maps.AppendAt
import Derived.Test.YtfknhpgelleenaaDoorZB4
import Derived.Test.YtfknhpgelleenaaDoorZB20
import Derived.Test.YtfknhpgelleenaaDoorZB30
import Derived.Test.YtfknhpgelleenaaDoorZB34
section
namespace Go.Proofs.YtfknhpgelleenaaDoor.K
open Go Go.RowKit Go.Proofs.YtfknhpgelleenaaDoorW.PrintWords Go.Proofs.YtfknhpgelleenaaDoorW.PrintLast Go.Proofs.YtfknhpgelleenaaDoorW.PrintMore
set_option linter.unusedVariables false
set_option linter.unusedSimpArgs false
open Go.Proofs.YtfknhpgelleenaaDoor.MShape (Sh)
open Go.Proofs.YtfknhpgelleenaaDoor.MRead (Rs runS ringsS ringsN)
theorem stepL {P : Program} {ops : Array Oper} {o : Oper} {a : Act} {W : World} {K : Act → World → Prop} {Q : Exit → Act → World → Prop} {E : Prop} (hg : o.guard = none)
    (h : wpList P ops (fun ex a w => ex = .normal ∧ K a w) [o] a W) : if Region.wanted o (yielded ops a.tmps) = true then Oper.wp P o a W K Q else E := by
  rw [if_pos (by simp [Region.wanted, hg])]
  exact wp_of_list hg h
/-- A row of shapes made from B on. -/
abbrev RS (B : Nat) (W : World) (v : Value) (l : List Sh) : Prop := KW.R 25 W B (fun _ => True) v l
def zsh : Sh := .mk 0 [] []
/-- What an answer of the reader leaves. -/
def Ans {α : Type} (W : World) (g q : Nat) (r : Rs α) (a : α) : Prop :=
  match r with
  | .ok b l p n => a = b ∧ Gd W g q l p n
  | .bad c => Bad W g q c
section
variable {ops : Array Oper} {rest : List Oper} {o : Oper} {a : Act} {Q : Exit → Act → World → Prop}
/-- append(shapes, a shape of no kind that lies in a block) -/
theorem appZsh {B : Nat} {W : World} (s x : Operand) (hgd : o.guard = none) (ho : o.op = .call { callee := .builtin .append, args := #[s, x], argTypes := #[23, 23] })
    (v : Value) (xs : List Sh) (z : Nat) (hs : a.eval s = v) (hx : a.eval x = .slice (some ⟨z, 0, none⟩) 1 1) (HZ : Blk W z #[.int .i64 0, .slice none 0 0, .slice none 0 0] 25)
    (HO : RS B W v xs) (hB : B ≤ W.heap.size) (hl : xs.length + 1 < 1000000)
    (h : ∀ v1 w1, Hid (RS B w1 v1 (xs ++ [zsh])) → Hid (Below B W w1) → Hid (W.grownBy w1 v.ownBlock) → wpList Tryd.prog ops Q rest (a.put o.dst v1) w1) :
    wpList Tryd.prog ops Q (o :: rest) a W := by
  obtain ⟨i0, hi, hzz⟩ := Option.map_eq_some_iff.1 infoSh
  simp only [Prod.mk.injEq] at hzz
  obtain ⟨hz0, hz1, hz2⟩ := hzz
  obtain ⟨h0, inner, hown, hr⟩ := HO
  refine wpList_plain hgd fun K hK => ?_
  obtain ⟨v1, w1, hrun, hown1, hg, hnn, hat⟩ := run_append_own_at (P := Tryd.prog) W B 23 o.type 25 i0 (.agg #[.int .i64 0, .slice none 0 0, .slice none 0 0]) 3 56 Tryd.underlying23 hi hz0 hz1 hz2 rfl (by decide) v xs.length inner hown ⟨z, 0, none⟩ 1 1 [.int .i64 0, .slice none 0 0, .slice none 0 0] rfl
    (by simpa using World.news_of_block (cs := #[.int .i64 0, .slice none 0 0, .slice none 0 0]) (t := 25) (fr := (0, 0)) HZ) (by intro u hu; simp only [List.mem_cons, List.not_mem_nil, or_false] at hu; rcases hu with rfl | rfl | rfl <;> rfl) (by simp only [maxLen]; omega) (by omega) hB
  have hat1 : v1.ownBlock = v.ownBlock ∨ ∃ b, v1.ownBlock = some b ∧ W.heap.size ≤ b := by
    rcases hat with hat | hat
    · exact .inl hat
    · exact .inr ⟨_, hat, Nat.le_refl _⟩
  unfold Oper.wp execOp
  simp only [ho, resolve, invoke, builtin, List.map_toArray, List.map_cons, List.map_nil, hs, hx, Sem.run_bind, Sem.run_pure, Result.andThen_ok, hrun]
  refine hK _ _ (h v1 w1 (Lib.hid ?_) (Lib.hid ?_) (Lib.hid hg))
  · exact Kd.R_appended (d := KW) (okp := fun _ => False) h0 hr (show KW.M W B (fun _ => False) zsh [.int .i64 0, .slice none 0 0, .slice none 0 0] from MW.of (Kd.R_nil _ _ _ _ _) (Kd.R_nil _ _ _ _ _)) (fun _ hk => hk.elim) (fun _ _ => trivial) hown1 hg hat1
  · exact (Below.refl B W).grown hg hB (fun k e => (hown.lt k e).1)
end
/-- A row that is not empty, opened. -/
theorem RS.opens {B : Nat} {W : World} {v : Value} {xs : List Sh} {x : Sh} (h : RS B W v (xs ++ [x])) : ∃ g8 cap d0 d1 d2, v = .slice (some ⟨g8, 0, none⟩) (xs.length + 1) cap ∧ xs.length + 1 ≤ cap ∧ B ≤ g8 ∧ g8 < W.heap.size ∧ (∃ cur, Blk W g8 cur 25) ∧ (∀ i, W.frozen? ⟨g8, i, none⟩ = false) ∧
    W.cell? ⟨g8, xs.length * 3, none⟩ = some d0 ∧ W.cell? ⟨g8, xs.length * 3 + 1, none⟩ = some d1 ∧ W.cell? ⟨g8, xs.length * 3 + 2, none⟩ = some d2 := by
  obtain ⟨hok, inner, ⟨hlen, hown⟩, -⟩ := h
  rcases hown with ⟨_, e⟩ | ⟨g, cap, cur, e, hbg, hh, hle, _, hcs, _⟩
  · simp at e
  have hcs : cur.size = cap * 3 := hcs
  have hl : (xs ++ [x]).length = xs.length + 1 := by simp
  rw [hl] at e hle
  exact ⟨g, cap, cur[xs.length * 3], cur[xs.length * 3 + 1], cur[xs.length * 3 + 2], e, hle, hbg, Blk.lt hh, ⟨cur, hh⟩, fun i => Blk.froz hh i, Blk.cell hh _ (Array.getElem?_eq_getElem (by omega)), Blk.cell hh _ (Array.getElem?_eq_getElem (by omega)), Blk.cell hh _ (Array.getElem?_eq_getElem (by omega))⟩
/-- The last of a row is written over. -/
theorem RS.last {B g8 cap : Nat} {W : World} {xs : List Sh} {p x : Sh} {c0 c1 c2 : Value} {okp : Nat → Prop} (h : RS B W (.slice (some ⟨g8, 0, none⟩) (xs.length + 1) cap) (xs ++ [x])) (hM : KW.M W B okp p [c0, c1, c2]) (hok : ∀ k, okp k → k ≠ g8) :
    RS B (((W.setCell ⟨g8, xs.length * 3, none⟩ c0).setCell ⟨g8, xs.length * 3 + 1, none⟩ c1).setCell ⟨g8, xs.length * 3 + 2, none⟩ c2) (.slice (some ⟨g8, 0, none⟩) (xs.length + 1) cap) (xs ++ [p]) ∧
    W.grownBy (((W.setCell ⟨g8, xs.length * 3, none⟩ c0).setCell ⟨g8, xs.length * 3 + 1, none⟩ c1).setCell ⟨g8, xs.length * 3 + 2, none⟩ c2) (some g8) := by
  obtain ⟨g', cap', d0, d1, d2, e, _, _, _, _, _, h0, h1, h2⟩ := h.opens
  injection e with e1 e2 e3
  injection e1 with e1
  injection e1 with e1
  subst e1 e3
  have := Kd.R_seg (d := KW) h (i := xs.length) (by omega) (by omega) (c := [d0, d1, d2]) (seg := [c0, c1, c2]) (j := 0) rfl (fun j u hu => by
    rw [Int.toNat_natCast]
    match j, hu with
    | 0, hu => obtain rfl : d0 = u := by simpa using hu
               exact h0
    | 1, hu => obtain rfl : d1 = u := by simpa using hu
               exact h1
    | 2, hu => obtain rfl : d2 = u := by simpa using hu
               exact h2
    | j + 3, hu => simp at hu) (by show 0 + 3 ≤ 3; omega) (x' := p) (okp := okp) hM (fun k hk => ⟨trivial, hok k hk⟩)
  rw [Int.toNat_natCast] at this
  rw [show (xs ++ [x]).set xs.length p = xs ++ [p] by simp] at this
  exact this
/-- Three blocks may have turned. -/
def Thr (a b : World) (g k s : Nat) : Prop := b.os = a.os ∧ b.tape = a.tape ∧ b.output = a.output ∧ a.heap.size ≤ b.heap.size ∧ ∀ i, i < a.heap.size → i ≠ g → i ≠ k → i ≠ s → b.heap[i]? = a.heap[i]?
theorem Thr.refl (a : World) (g k s : Nat) : Thr a a g k s := ⟨rfl, rfl, rfl, Nat.le_refl _, fun _ _ _ _ _ => rfl⟩
theorem Thr.of_two {a b : World} {g k : Nat} (s : Nat) (h : Two a b g k) : Thr a b g k s := ⟨h.1, h.2.1, h.2.2.1, h.2.2.2.1, fun i hi hg hk _ => h.2.2.2.2 i hi hg hk⟩
theorem Thr.trans {a b c : World} {g k s : Nat} (h : Thr a b g k s) (h' : Thr b c g k s) : Thr a c g k s :=
  ⟨h'.1.trans h.1, h'.2.1.trans h.2.1, h'.2.2.1.trans h.2.2.1, Nat.le_trans h.2.2.2.1 h'.2.2.2.1, fun i hi hg hk hs => (h'.2.2.2.2 i (Nat.lt_of_lt_of_le hi h.2.2.2.1) hg hk hs).trans (h.2.2.2.2 i hi hg hk hs)⟩
theorem Thr.set {a b : World} {g k s i : Nat} (h : Thr a b g k s) (u : Value) : Thr a (b.setCell ⟨s, i, none⟩ u) g k s :=
  ⟨h.1, h.2.1, h.2.2.1, by simpa using h.2.2.2.1, fun j hj hg hk hs => (Below.heap_setCell b ⟨s, i, none⟩ u j hs).trans (h.2.2.2.2 j hj hg hk hs)⟩
theorem Thr.under {w W W' : World} {B g q s : Nat} (h : Thr w W g q s) (hb : Below B W W') (hB : w.heap.size ≤ B) : Thr w W' g q s :=
  ⟨hb.os.trans h.1, hb.tape.trans h.2.1, hb.output.trans h.2.2.1, Nat.le_trans h.2.2.2.1 hb.size, fun i hi hg hk hs => (hb.block i (by omega)).trans (h.2.2.2.2 i hi hg hk hs)⟩
theorem Thr.two {a b : World} {g k s : Nat} (h : Thr a b g k s) (hs : a.heap.size ≤ s) : Two a b g k := ⟨h.1, h.2.1, h.2.2.1, h.2.2.2.1, fun i hi hg hk => h.2.2.2.2 i hi hg hk (by omega)⟩
theorem below_grown {B : Nat} {W W' : World} {b : Nat} (h : W.grownBy W' (some b)) (hb : B ≤ b) (hB : B ≤ W.heap.size) : Below B W W' :=
  ⟨h.os, h.tape, h.output, h.size, fun k hk => h.block k (by omega) (fun e => by have := Option.some.inj e; omega)⟩
/-- What is set in a block that is none of the reader's and older than no bytes. -/
theorem Ans.under {α : Type} {W W' : World} {B g q : Nat} {r : Rs α} {a : α} (h : Ans W g q r a) (hb : Below B W W') (hg : g < B) (hq : q < B) : Ans W' g q r a := by
  unfold Ans at h ⊢
  cases r with
  | ok b l p n => exact ⟨h.1, h.2.under hb hg hq⟩
  | bad c => exact Bad.under h hb hg hq
theorem run_any {W W1 : World} {g q : Nat} {l : List Int} {p n : Int} (h : Gd W g q l p n) (hb : Bel W W1) (o : Bool) :
    Calls Tryd.prog 97 #[.pointer (some ⟨g, 0, none⟩), .bool o] W1 fun ex W' => ∃ A c pts, ex = .returned (.iface 157 (.slice A pts.length c)) ∧ Hid (RP W.heap.size W' (.slice A pts.length c) pts) ∧ Hid (Ans W' g q (runS o l p n) pts) ∧ Hid (Two W1 W' g q) := by
  cases hr : runS o l p n with
  | ok pts l' p' n' =>
    refine (run_ok (h.bel hb) o hr).mono ?_
    rintro e W' ⟨v, rfl, h1, h2, h3⟩
    obtain ⟨A, c, rfl, -, -⟩ := Kd.R_reads h1.out
    exact ⟨A, c, pts, rfl, Lib.hid (Kd.R_lower h1.out hb.size), Lib.hid ⟨rfl, h2.out⟩, h3⟩
  | bad c =>
    refine (run_bad (h.bel hb) o hr).mono ?_
    rintro e W' ⟨v, rfl, h1, h2, h3⟩
    obtain ⟨A, cc, rfl, -, -⟩ := Kd.R_reads h1.out
    exact ⟨A, cc, [], rfl, Lib.hid (Kd.R_lower h1.out hb.size), Lib.hid h2.out, h3⟩
theorem Rd.setS {W : World} {g q s i : Nat} {l : List Int} {se e p n : Int} (h : Rd W g q l se e p n) {kd : Int} {A1 A2 : Option Addr} {n1 c1 n2 c2 : Nat} (hs : Blk W s #[.int .i64 kd, .slice A1 n1 c1, .slice A2 n2 c2] 25) (hg : g ≠ s) (hq : q ≠ s) (u : Value) : Rd (W.setCell ⟨s, i, none⟩ u) g q l se e p n := by
  have hgr : W.grownBy (W.setCell ⟨s, i, none⟩ u) (some s) := only_setCell (g := s) (p := ⟨s, i, none⟩) (World.grownBy.refl _ _) (.inl rfl) _
  exact ⟨h.blk.set_ne hg u, h.src.only h.src.lt hq hgr (fun A hA => hA.only hs (by intro v hv x; simp at hv; rcases hv with rfl | rfl | rfl <;> simp) hgr), h.ne, h.byt, h.g2, h.q2⟩
theorem Ans.setS {α : Type} {W : World} {g q s i : Nat} {r : Rs α} {a : α} (h : Ans W g q r a) {kd : Int} {A1 A2 : Option Addr} {n1 c1 n2 c2 : Nat} (hs : Blk W s #[.int .i64 kd, .slice A1 n1 c1, .slice A2 n2 c2] 25) (hg : g ≠ s) (hq : q ≠ s) (u : Value) : Ans (W.setCell ⟨s, i, none⟩ u) g q r a := by
  unfold Ans at h ⊢
  cases r with
  | ok b l p n => exact ⟨h.1, h.2.rd.setS hs hg hq u, h.2.p0, h.2.p1, h.2.n0, h.2.n1, h.2.len⟩
  | bad c =>
    obtain ⟨hc, l, se, e, p, n, h, he⟩ := h
    exact ⟨hc, l, se, e, p, n, h.setS hs hg hq u, he⟩
end Go.Proofs.YtfknhpgelleenaaDoor.K
namespace Go.Proofs.YtfknhpgelleenaaDoor.K
open Go Go.RowKit Go.Proofs.YtfknhpgelleenaaDoorW.PrintWords Go.Proofs.YtfknhpgelleenaaDoorW.PrintLast Go.Proofs.YtfknhpgelleenaaDoorW.PrintMore
set_option linter.unusedVariables false
set_option linter.unusedSimpArgs false
open Go.Proofs.YtfknhpgelleenaaDoor.MShape (Sh)
open Go.Proofs.YtfknhpgelleenaaDoor.MRead (Rs runS ringsS ringsN numberS)
/-- A loop of the reader: so many parts are still to come. -/
def Lp (F : Nat → List Sh → List Int → Int → Int → Rs (List Sh)) (R : Rs (List Sh)) (W : World) (g q j : Nat) (acc : List Sh) : Prop :=
  (∃ l p n, Gd W g q l p n ∧ F j acc l p n = R) ∨ (∃ c, Bad W g q c ∧ R = .bad c)
theorem Lp.under {F : Nat → List Sh → List Int → Int → Int → Rs (List Sh)} {R : Rs (List Sh)} {W W' : World} {B g q j : Nat} {acc : List Sh} (h : Lp F R W g q j acc) (hb : Below B W W') (hg : g < B) (hq : q < B) : Lp F R W' g q j acc := by
  rcases h with ⟨l, p, n, h, e⟩ | ⟨c, h, e⟩
  · exact .inl ⟨l, p, n, h.under hb hg hq, e⟩
  · exact .inr ⟨c, h.under hb hg hq, e⟩
theorem Lp.setS {F : Nat → List Sh → List Int → Int → Int → Rs (List Sh)} {R : Rs (List Sh)} {W : World} {g q j s i : Nat} {acc : List Sh} (h : Lp F R W g q j acc) {kd : Int} {A1 A2 : Option Addr} {n1 c1 n2 c2 : Nat} (hs : Blk W s #[.int .i64 kd, .slice A1 n1 c1, .slice A2 n2 c2] 25) (hg : g ≠ s) (hq : q ≠ s) (u : Value) : Lp F R (W.setCell ⟨s, i, none⟩ u) g q j acc := by
  rcases h with ⟨l, p, n, h, e⟩ | ⟨c, h, e⟩
  · exact .inl ⟨l, p, n, ⟨h.rd.setS hs hg hq u, h.p0, h.p1, h.n0, h.n1, h.len⟩, e⟩
  · obtain ⟨hc, l, se, e', p, n, h, he⟩ := h
    exact .inr ⟨c, ⟨hc, l, se, e', p, n, h.setS hs hg hq u, he⟩, e⟩
theorem numN4_any {W : World} {g q : Nat} {l : List Int} {p n : Int} (h : Gd W g q l p n) (o : Bool) :
    Calls Tryd.prog 117 #[.pointer (some ⟨g, 0, none⟩), .int .i64 4, .bool o, .pointer (some ⟨g, 3, none⟩), .int .i64 1000] W fun ex W' => ∃ j : Nat, ex = .returned (.int .i64 j) ∧ Hid (j ≤ 1000) ∧ Hid (Lp (ringsS o) (ringsN o l p n) W' g q j []) ∧ Hid (Two W W' g q) := by
  cases hr : numberS 4 o true 1000 l p n with
  | ok v l' p' n' =>
    refine (numN4_ok h o hr).mono ?_
    rintro e W' ⟨rfl, h1, h2⟩
    obtain ⟨hl, hv, -, rfl, rfl, rfl, rfl⟩ := MRead.number_ok hr
    have h0 := (getV4_in h.rd.byt o hl).2.1
    have hn0 := h.n0
    simp at hv
    refine ⟨(MOct.getV l 4 o).1.toNat, by rw [Int.toNat_of_nonneg h0], Lib.hid (by omega), Lib.hid (.inl ⟨_, _, _, h1.out, ?_⟩), h2⟩
    unfold ringsN
    rw [hr]
  | bad c =>
    refine (numN4_bad h o hr).mono ?_
    rintro e W' ⟨rfl, h1, h2⟩
    exact ⟨0, rfl, Lib.hid (by omega), Lib.hid (.inr ⟨c, h1.out, by unfold ringsN; rw [hr]⟩), h2⟩
theorem Blk.two {a b : World} {g k s t : Nat} {cs : Array Value} (h : Blk a s cs t) (ht : Two a b g k) (hg : g ≠ s) (hk : k ≠ s) : Blk b s cs t := ht.blk h (fun e => hg e.symm) (fun e => hk e.symm)
theorem RS.ne_rp {B B' : Nat} {W : World} {v v' : Value} {l : List Sh} {l' : List (Int × Int)} (h : RS B W v l) (h' : RP B' W v' l') : ∀ k, v'.ownBlock = some k → some k ≠ v.ownBlock := by
  intro k hk e
  obtain ⟨_, inner, ho, _⟩ := h
  obtain ⟨_, inner', ho', _⟩ := h'
  obtain ⟨c, hc⟩ := own_typed ho k e.symm
  obtain ⟨c', hc'⟩ := own_typed ho' k hk
  rw [hc] at hc'
  cases hc'
/-- A part is stored behind the parts of a shape: what stays. -/
theorem row_step {V w8 W9 : World} {B g q gs g8 cap8 c n1 c1 : Nat} {acc : List Sh} {A A1 : Option Addr} {kd : Int} {p : Sh} {k0 : Int} {B1 B2 : Option Addr} {m1 m2 e1 e2 : Nat} {okp : Nat → Prop}
    (h8 : RS B w8 (.slice (some ⟨g8, 0, none⟩) (acc.length + 1) cap8) (acc ++ [zsh])) (HM : KW.M w8 B okp p [.int .i64 k0, .slice B1 m1 e1, .slice B2 m2 e2]) (hok : ∀ k, okp k → B ≤ k → k ≠ g8)
    (Y8 : Blk w8 gs #[.int .i64 kd, .slice A1 n1 c1, .slice A acc.length c] 25) (hB : B ≤ g8) (hgs : gs < B) (hg : g < B) (hq : q < B) (hge : g ≠ gs) (hqe : q ≠ gs)
    (hW : W9 = (((w8.setCell ⟨g8, acc.length * 3, none⟩ (.int .i64 k0)).setCell ⟨g8, acc.length * 3 + 1, none⟩ (.slice B1 m1 e1)).setCell ⟨g8, acc.length * 3 + 2, none⟩ (.slice B2 m2 e2)).setCell ⟨gs, 2, none⟩ (.slice (some ⟨g8, 0, none⟩) (acc.length + 1) cap8) ∨
      W9 = (((w8.setCell ⟨gs, 2, none⟩ (.slice (some ⟨g8, 0, none⟩) (acc.length + 1) cap8)).setCell ⟨g8, acc.length * 3, none⟩ (.int .i64 k0)).setCell ⟨g8, acc.length * 3 + 1, none⟩ (.slice B1 m1 e1)).setCell ⟨g8, acc.length * 3 + 2, none⟩ (.slice B2 m2 e2)) :
    Blk W9 gs #[.int .i64 kd, .slice A1 n1 c1, .slice (some ⟨g8, 0, none⟩) (acc ++ [p]).length cap8] 25 ∧ RS B W9 (.slice (some ⟨g8, 0, none⟩) (acc ++ [p]).length cap8) (acc ++ [p]) ∧
    (∀ F R j a, Lp F R w8 g q j a → Lp F R W9 g q j a) ∧ (∀ W : World, W.heap.size ≤ B → Thr W w8 g q gs → Thr W W9 g q gs) := by
  have hl : (acc ++ [p]).length = acc.length + 1 := by simp
  rw [hl]
  have hsz : B ≤ w8.heap.size := Nat.le_of_lt (Nat.lt_of_le_of_lt hB (Kd.R_lt h8 g8 rfl))
  have HM' : KW.M w8 B (fun k => okp k ∧ B ≤ k) p [.int .i64 k0, .slice B1 m1 e1, .slice B2 m2 e2] := by
    obtain ⟨d, hm⟩ := HM
    exact ⟨d, hm.bound.mono (fun k hk => ⟨hk.1, hk.2.1⟩)⟩
  rcases hW with rfl | rfl
  · obtain ⟨r9, gr9⟩ := h8.last HM' (fun k hk => hok k hk.1 hk.2)
    have b9 := below_grown gr9 hB hsz
    obtain ⟨W, hW⟩ : ∃ X, ((w8.setCell ⟨g8, acc.length * 3, none⟩ (.int .i64 k0)).setCell ⟨g8, acc.length * 3 + 1, none⟩ (.slice B1 m1 e1)).setCell ⟨g8, acc.length * 3 + 2, none⟩ (.slice B2 m2 e2) = X := ⟨_, rfl⟩
    rw [hW] at r9 gr9 b9 ⊢
    have Y9 : Blk W gs #[.int .i64 kd, .slice A1 n1 c1, .slice A acc.length c] 25 := (b9.block gs hgs).trans Y8
    refine ⟨Y9.set 2 _, Kd.R_mono (Kd.R_far (p := ⟨gs, 2, none⟩) (Kd.R_bound r9) (fun k hk => by have := hk.2.1; show k ≠ gs; omega) _) (fun k hk => hk.1), fun F R j a hL => (hL.under b9 hg hq).setS Y9 hge hqe _, fun W0 h0 hT => (hT.under b9 h0).set _⟩
  · have hgr : w8.grownBy (w8.setCell ⟨gs, 2, none⟩ (.slice (some ⟨g8, 0, none⟩) (acc.length + 1) cap8)) (some gs) := only_setCell (g := gs) (p := ⟨gs, 2, none⟩) (World.grownBy.refl _ _) (.inl rfl) _
    have Y9 := Y8.set 2 (.slice (some ⟨g8, 0, none⟩) (acc.length + 1) cap8)
    have h9 : RS B (w8.setCell ⟨gs, 2, none⟩ (.slice (some ⟨g8, 0, none⟩) (acc.length + 1) cap8)) (.slice (some ⟨g8, 0, none⟩) (acc.length + 1) cap8) (acc ++ [zsh]) := Kd.R_mono (Kd.R_far (p := ⟨gs, 2, none⟩) (Kd.R_bound h8) (fun k hk => by have := hk.2.1; show k ≠ gs; omega) _) (fun k hk => hk.1)
    have HM9 := Kd.M_far (d := KW) (p := ⟨gs, 2, none⟩) HM' (fun k hk => by have := hk.2; show k ≠ gs; omega) (.slice (some ⟨g8, 0, none⟩) (acc.length + 1) cap8)
    have L9 : ∀ F R j a, Lp F R w8 g q j a → Lp F R (w8.setCell ⟨gs, 2, none⟩ (.slice (some ⟨g8, 0, none⟩) (acc.length + 1) cap8)) g q j a := fun F R j a hL => hL.setS Y8 hge hqe _
    have T9 : ∀ W : World, W.heap.size ≤ B → Thr W w8 g q gs → Thr W (w8.setCell ⟨gs, 2, none⟩ (.slice (some ⟨g8, 0, none⟩) (acc.length + 1) cap8)) g q gs := fun W0 h0 hT => hT.set _
    have hsz9 : B ≤ (w8.setCell ⟨gs, 2, none⟩ (.slice (some ⟨g8, 0, none⟩) (acc.length + 1) cap8)).heap.size := Nat.le_trans hsz hgr.size
    obtain ⟨W, hW⟩ : ∃ X, w8.setCell ⟨gs, 2, none⟩ (.slice (some ⟨g8, 0, none⟩) (acc.length + 1) cap8) = X := ⟨_, rfl⟩
    rw [hW] at Y9 h9 HM9 L9 T9 hsz9 ⊢
    obtain ⟨r9, gr9⟩ := h9.last HM9 (fun k hk => hok k hk.1 hk.2)
    have b9 := below_grown gr9 hB hsz9
    exact ⟨(b9.block gs hgs).trans Y9, r9, fun F R j a hL => (L9 F R j a hL).under b9 hg hq, fun W0 h0 hT => (T9 W0 h0 hT).under b9 h0⟩
/-- A ring's points. -/
theorem ring_M {B B' : Nat} {V w8 : World} {g8 cap8 : Nat} {acc : List Sh} {A A7 : Option Addr} {c c7 n : Nat} {pts : List (Int × Int)} (h8 : RS B w8 (.slice (some ⟨g8, 0, none⟩) (acc.length + 1) cap8) (acc ++ [zsh])) (RV : RS B V (.slice A n c) acc) (PV : RP B V (.slice A7 pts.length c7) pts) (gr8 : V.grownBy w8 (Value.slice A n c).ownBlock) :
    KW.M w8 B (fun k => k ≠ g8) (.mk 0 pts []) [.int .i64 0, .slice A7 pts.length c7, .slice none 0 0] := by
  have P8 : RP B w8 (.slice A7 pts.length c7) pts := Kd.R_grown2 PV rfl gr8 (fun k hk e => RS.ne_rp RV PV k e.symm hk.symm)
  have hne := RS.ne_rp h8 P8
  exact MW.of (Kd.R_mono (Kd.R_tight rfl P8) (fun k hk => fun e => hne k (by first | exact hk | exact hk.symm | exact hk.2 | exact hk.1) (by rw [e]; rfl))) (Kd.R_nil _ _ _ _ _)
theorem ring_Lp {W : World} {g q j : Nat} {o : Bool} {l : List Int} {p n : Int} {acc : List Sh} {R : Rs (List Sh)} {pts : List (Int × Int)} (hF : ringsS o j acc l p n = R) (hj : j ≠ 0) (hA : Ans W g q (runS o l p n) pts) : Lp (ringsS o) R W g q (j - 1) (acc ++ [.mk 0 pts []]) := by
  obtain ⟨k, rfl⟩ : ∃ k, j = k + 1 := ⟨j - 1, by omega⟩
  unfold ringsS at hF
  unfold Ans at hA
  cases hr : runS o l p n with
  | ok b l' p' n' =>
    rw [hr] at hF hA
    simp only at hF hA
    obtain ⟨rfl, hG⟩ := hA
    exact .inl ⟨l', p', n', hG, hF⟩
  | bad c =>
    rw [hr] at hF hA
    exact .inr ⟨c, hA, hF.symm⟩
end Go.Proofs.YtfknhpgelleenaaDoor.K
namespace Go.Proofs.YtfknhpgelleenaaDoor.K
open Go Go.RowKit Go.Proofs.YtfknhpgelleenaaDoorW.PrintWords Go.Proofs.YtfknhpgelleenaaDoorW.PrintLast Go.Proofs.YtfknhpgelleenaaDoorW.PrintMore
set_option linter.unusedVariables false
set_option linter.unusedSimpArgs false
open Go.Proofs.YtfknhpgelleenaaDoor.MShape (Sh)
open Go.Proofs.YtfknhpgelleenaaDoor.MRead (Rs partsS partsN numberS shapeS)
/-- The global tables. -/
def Gl (W : World) : Prop := FormsAt W ∧ NowAt W ∧ 2 ≤ W.heap.size
theorem Gl.below {W W' : World} {B : Nat} (h : Gl W) (hb : Below B W W') (hB : 2 ≤ B) : Gl W' :=
  ⟨h.1.keep (fun j hj cs t r hc => (hb.block j (by omega)).trans hc), h.2.1.below hB hb, Nat.le_trans h.2.2 hb.size⟩
theorem Gl.two {W W' : World} {g q : Nat} (h : Gl W) (ht : Two W W' g q) (hg : 2 ≤ g) (hq : 2 ≤ q) : Gl W' :=
  h.below (B := 2) ⟨ht.1, ht.2.1, ht.2.2.1, ht.2.2.2.1, fun k hk => ht.2.2.2.2 k (by have := h.2.2; omega) (by omega) (by omega)⟩ (Nat.le_refl _)
theorem Gl.thr {W W' : World} {g q s : Nat} (h : Gl W) (ht : Thr W W' g q s) (hg : 2 ≤ g) (hq : 2 ≤ q) (hs : 2 ≤ s) : Gl W' :=
  h.below (B := 2) ⟨ht.1, ht.2.1, ht.2.2.1, ht.2.2.2.1, fun k hk => ht.2.2.2.2 k (by have := h.2.2; omega) (by omega) (by omega) (by omega)⟩ (Nat.le_refl _)
section
variable {ops : Array Oper} {rest : List Oper} {o : Oper} {a : Act} {Q : Exit → Act → World → Prop}
/-- as appZsh; where the row then lies -/
theorem appZsh2 {B : Nat} {W : World} (s x : Operand) (hgd : o.guard = none) (ho : o.op = .call { callee := .builtin .append, args := #[s, x], argTypes := #[23, 23] })
    (v : Value) (xs : List Sh) (z : Nat) (hs : a.eval s = v) (hx : a.eval x = .slice (some ⟨z, 0, none⟩) 1 1) (HZ : Blk W z #[.int .i64 0, .slice none 0 0, .slice none 0 0] 25)
    (HO : RS B W v xs) (hB : B ≤ W.heap.size) (hl : xs.length + 1 < 1000000)
    (h : ∀ v1 w1, Hid (RS B w1 v1 (xs ++ [zsh])) → Hid (Below B W w1) → Hid (W.grownBy w1 v.ownBlock) → Hid (v1.ownBlock = v.ownBlock ∨ ∃ b, v1.ownBlock = some b ∧ W.heap.size ≤ b) → wpList Tryd.prog ops Q rest (a.put o.dst v1) w1) :
    wpList Tryd.prog ops Q (o :: rest) a W := by
  obtain ⟨i0, hi, hzz⟩ := Option.map_eq_some_iff.1 infoSh
  simp only [Prod.mk.injEq] at hzz
  obtain ⟨hz0, hz1, hz2⟩ := hzz
  obtain ⟨h0, inner, hown, hr⟩ := HO
  refine wpList_plain hgd fun K hK => ?_
  obtain ⟨v1, w1, hrun, hown1, hg, hnn, hat⟩ := run_append_own_at (P := Tryd.prog) W B 23 o.type 25 i0 (.agg #[.int .i64 0, .slice none 0 0, .slice none 0 0]) 3 56 Tryd.underlying23 hi hz0 hz1 hz2 rfl (by decide) v xs.length inner hown ⟨z, 0, none⟩ 1 1 [.int .i64 0, .slice none 0 0, .slice none 0 0] rfl
    (by simpa using World.news_of_block (cs := #[.int .i64 0, .slice none 0 0, .slice none 0 0]) (t := 25) (fr := (0, 0)) HZ) (by intro u hu; simp only [List.mem_cons, List.not_mem_nil, or_false] at hu; rcases hu with rfl | rfl | rfl <;> rfl) (by simp only [maxLen]; omega) (by omega) hB
  have hat1 : v1.ownBlock = v.ownBlock ∨ ∃ b, v1.ownBlock = some b ∧ W.heap.size ≤ b := by
    rcases hat with hat | hat
    · exact .inl hat
    · exact .inr ⟨_, hat, Nat.le_refl _⟩
  unfold Oper.wp execOp
  simp only [ho, resolve, invoke, builtin, List.map_toArray, List.map_cons, List.map_nil, hs, hx, Sem.run_bind, Sem.run_pure, Result.andThen_ok, hrun]
  refine hK _ _ (h v1 w1 (Lib.hid ?_) (Lib.hid ?_) (Lib.hid hg) (Lib.hid hat1))
  · exact Kd.R_appended (d := KW) (okp := fun _ => False) h0 hr (show KW.M W B (fun _ => False) zsh [.int .i64 0, .slice none 0 0, .slice none 0 0] from MW.of (Kd.R_nil _ _ _ _ _) (Kd.R_nil _ _ _ _ _)) (fun _ hk => hk.elim) (fun _ _ => trivial) hown1 hg hat1
  · exact (Below.refl B W).grown hg hB (fun k e => (hown.lt k e).1)
end
theorem part_Lp {F : List Int → Int → Int → Rs Sh} {W : World} {g q j : Nat} {l : List Int} {p n : Int} {acc : List Sh} {R : Rs (List Sh)} {sh : Sh} (hF : partsS F j acc l p n = R) (hj : j ≠ 0) (hA : Ans W g q (F l p n) sh) : Lp (partsS F) R W g q (j - 1) (acc ++ [sh]) := by
  obtain ⟨k, rfl⟩ : ∃ k, j = k + 1 := ⟨j - 1, by omega⟩
  unfold partsS at hF
  unfold Ans at hA
  cases hr : F l p n with
  | ok b l' p' n' =>
    rw [hr] at hF hA
    simp only at hF hA
    obtain ⟨rfl, hG⟩ := hA
    exact .inl ⟨l', p', n', hG, hF⟩
  | bad c =>
    rw [hr] at hF hA
    exact .inr ⟨c, hA, hF.symm⟩
theorem numN9_any (F : List Int → Int → Int → Rs Sh) {W : World} {g q : Nat} {l : List Int} {p n : Int} (h : Gd W g q l p n) (o : Bool) :
    Calls Tryd.prog 117 #[.pointer (some ⟨g, 0, none⟩), .int .i64 9, .bool o, .pointer (some ⟨g, 3, none⟩), .int .i64 1000] W fun ex W' => ∃ j : Nat, ex = .returned (.int .i64 j) ∧ Hid (j ≤ 1000) ∧ Hid (Lp (partsS F) (partsN F o l p n) W' g q j []) ∧ Hid (Two W W' g q) := by
  cases hr : numberS 9 o true 1000 l p n with
  | ok v l' p' n' =>
    refine (numN9_ok h o hr).mono ?_
    rintro e W' ⟨rfl, h1, h2⟩
    obtain ⟨hl, hv, -, rfl, rfl, rfl, rfl⟩ := MRead.number_ok hr
    have h0 := (getV4_in h.rd.byt o hl).2.1
    have hn0 := h.n0
    simp at hv
    refine ⟨(MOct.getV l 4 o).1.toNat, by rw [Int.toNat_of_nonneg h0], Lib.hid (by omega), Lib.hid (.inl ⟨_, _, _, h1.out, ?_⟩), h2⟩
    unfold partsN
    rw [hr]
  | bad c =>
    refine (numN9_bad h o hr).mono ?_
    rintro e W' ⟨rfl, h1, h2⟩
    exact ⟨0, rfl, Lib.hid (by omega), Lib.hid (.inr ⟨c, h1.out, by unfold partsN; rw [hr]⟩), h2⟩
/-- What the reader's shape answers. -/
def RdC (kind d : Int) (F : List Int → Int → Int → Rs Sh) : Prop := ∀ (W : World) (g q : Nat) (l : List Int) (p n : Int), Gd W g q l p n → Gl W →
    Calls Tryd.prog 74 #[.pointer (some ⟨g, 0, none⟩), .int .i64 kind, .int .i64 d] W fun ex W' => ∃ k0 B1 m1 e1 B2 m2 e2 sh, ex = .returned (.iface 109 (.agg #[.int .i64 k0, .slice B1 m1 e1, .slice B2 m2 e2])) ∧
      Hid (KW.M W' W.heap.size (fun _ => True) sh [.int .i64 k0, .slice B1 m1 e1, .slice B2 m2 e2]) ∧ Hid (Ans W' g q (F l p n) sh) ∧ Hid (Two W W' g q)
theorem M_two {α : Type} {d : Kd α} {B g q : Nat} {W W' : World} {ok : Nat → Prop} {x : α} {cs : List Value} (h : d.M W B ok x cs) (ht : Two W W' g q) (hg : g < B) (hq : q < B) : d.M W' B ok x cs :=
  d.M_mono (fun k hk => hk.1) (d.M_move (fun k hk => ht.2.2.2.2 k hk.2.2.1 (by have := hk.2.1; omega) (by have := hk.2.1; omega)) (d.M_bound h))
end Go.Proofs.YtfknhpgelleenaaDoor.K
namespace Go.Proofs.YtfknhpgelleenaaDoor.K
open Go Go.RowKit Go.Proofs.YtfknhpgelleenaaDoorW.PrintWords Go.Proofs.YtfknhpgelleenaaDoorW.PrintLast Go.Proofs.YtfknhpgelleenaaDoorW.PrintMore
set_option linter.unusedVariables false
set_option linter.unusedSimpArgs false
open Go.Proofs.YtfknhpgelleenaaDoor.MShape (Sh)
open Go.Proofs.YtfknhpgelleenaaDoor.MRead (Rs partsS partsN numberS shapeS)
set_option maxHeartbeats 2000000 in
set_option maxRecDepth 100000 in
theorem parted_calls {F : List Int → Int → Int → Rs Sh} {kd d : Int} (HSH : RdC (prt kd) (d + 1) F) (hd : 0 ≤ d ∧ d ≤ 20) {W : World} {g q gs : Nat} {l : List Int} {p n : Int} (h : Gd W g q l p n) (hGl : Gl W) (o : Bool) {A1 : Option Addr} {n1 c1 : Nat} (hs : Blk W gs #[.int .i64 kd, .slice A1 n1 c1, .slice none 0 0] 25) (hg : g ≠ gs) (hq : q ≠ gs) (hgs : 2 ≤ gs) :
    Calls Tryd.prog 99 #[.pointer (some ⟨g, 0, none⟩), .pointer (some ⟨gs, 0, none⟩), .int .i64 d, .bool o] W fun ex W' => ∃ A c sh, ex = .returned (.tuple #[]) ∧ Hid (Blk W' gs #[.int .i64 kd, .slice A1 n1 c1, .slice A sh.length c] 25) ∧ Hid (RS W.heap.size W' (.slice A sh.length c) sh) ∧ Hid (Ans W' g q (partsN F o l p n) sh) ∧ Hid (Thr W W' g q gs) := by
  have HNUM := Lib.hid (numN9_any F h o)
  have HS := Lib.hid hs
  have HSHH := Lib.hid HSH
  have HGL := Lib.hid hGl
  have H2 : Hid (2 ≤ g ∧ 2 ≤ q ∧ 2 ≤ gs) := Lib.hid ⟨h.rd.g2, h.rd.q2, hgs⟩
  have HNE : Hid ((g ≠ gs ∧ q ≠ gs) ∧ g < W.heap.size ∧ q < W.heap.size ∧ gs < W.heap.size) := Lib.hid ⟨⟨hg, hq⟩, h.lt.1, h.lt.2, hs.lt⟩
  obtain ⟨R, hR⟩ : ∃ R, partsN F o l p n = R := ⟨_, rfl⟩
  rw [hR] at HNUM ⊢
  obtain ⟨B, hB⟩ : ∃ B, W.heap.size = B := ⟨_, rfl⟩
  rw [hB] at HNE ⊢
  have HB := Lib.hid hB
  have hwd : IntKind.i64.wrap (d + 1) = d + 1 := IntWalk.i64_in _ (by omega)
  have hA := assertBody
  clear h hs hg hq hR hB hgs hGl HSH hd
  go_enter Tryd.func99, Tryd.ntmps99
  go_wp2_with (go_at_call 117; refine (HNUM.out).mono ?_; rintro e w1 ⟨j0, rfl, HJ, h1, t1⟩)
  go_loopw [8] (fun i wr => ∃ (j : Nat) (A : Option Addr) (c : Nat) (acc : List Sh), i = .int .i64 j ∧ Hid (acc.length + j ≤ 1000) ∧ Hid (Blk wr gs #[.int .i64 kd, .slice A1 n1 c1, .slice A acc.length c] 25) ∧ Hid (RS B wr (.slice A acc.length c) acc) ∧ Hid (Lp (partsS F) R wr g q j acc) ∧ Hid (Thr W wr g q gs)) (fun i _ => (intOf i).toNat)
  case atStart => exact ⟨j0, none, 0, [], rfl, Lib.hid (by have := HJ.out; simp; omega), Lib.hid (HS.out.two t1.out HNE.out.1.1 HNE.out.1.2), Lib.hid (Kd.R_nil _ _ _ _ _), h1, Lib.hid (Thr.of_two gs t1.out)⟩
  case round =>
    obtain ⟨j, A, c, acc, rfl, HJJ, HG, HR, HL, HT⟩ := hrel
    by_cases hj : j = 0
    · subst hj
      go_wp2
      go_end0
      exact ⟨A, c, acc, rfl, HG, HR, Lib.hid (by
        rcases HL.out with ⟨l, p, n, h, e⟩ | ⟨c, h, e⟩
        · rw [← e]; exact ⟨rfl, h⟩
        · rw [e]; exact h), HT⟩
    rcases HL.out with ⟨l', p', n', hgd, hF⟩ | ⟨cc, hbad, hF⟩
    · have hgt : (0 : Int) < j := by omega
      have HF := Lib.hid hF
      have HD := Lib.hid hgd
      have hw : IntKind.i64.wrap ((j : Int) - 1) = (j : Int) - 1 := IntWalk.i64_in _ (by have := HJJ.out; omega)
      have HJ0 := Lib.hid hj
      have HLEN : Hid (acc.length + 1 < 1000000) := Lib.hid (by have := HJJ.out; omega)
      clear hgd hF hj
      go_upto_region 3 with (go_at_call 75; refine (HD.out.ok).mono ?_; rintro e w2 ⟨rfl, g2, t2⟩)
      have G2 := HG.out.two t2.out HNE.out.1.1 HNE.out.1.2
      have s0 : w2.cell? ⟨gs, 0, none⟩ = some (.int .i64 kd) := G2.cell 0 rfl
      have R2 := Lib.hid (R_two HR.out t2.out HNE.out.2.1 HNE.out.2.2.1)
      have TH2 := Lib.hid (HT.out.trans (Thr.of_two gs t2.out))
      have Z2 : Hid (B ≤ w2.heap.size) := Lib.hid (by have := TH2.out.2.2.2.1; have := HB.out; omega)
      have GL2 : Hid (Gl w2) := Lib.hid (HGL.out.thr TH2.out H2.out.1 H2.out.2.1 H2.out.2.2)
      have HG2 := Lib.hid G2
      clear G2
      go_upto_region 4 with (first
        | (go_at_call 74; refine (HSHH.out w2 g q l' p' n' g2.out GL2.out).mono ?_; rintro e w7 ⟨k0, B1, m1, e1, B2, m2, e2, sh, rfl, hM, a7, t7⟩)
        | (go_at_call 26; refine (part_calls kd w2 GL2.out.1).mono ?_; rintro e w9 ⟨rfl, rfl⟩))
      have G7 := HG2.out.two t7.out HNE.out.1.1 HNE.out.1.2
      have R7 := Lib.hid (R_two R2.out t7.out HNE.out.2.1 HNE.out.2.2.1)
      have Z7 : Hid (B ≤ w7.heap.size) := Lib.hid (Nat.le_trans Z2.out t7.out.2.2.2.1)
      have Z27 : Hid (w2.heap.size ≤ w7.heap.size) := Lib.hid t7.out.2.2.2.1
      have OW2 : Hid (∀ k, (Value.slice A acc.length c).ownBlock = some k → k < w2.heap.size) := Lib.hid (Kd.R_lt R2.out)
      have PZ := Blk.new w7 #[.int .i64 k0, .slice B1 m1 e1, .slice B2 m2 e2] 109
      have B5 : Bel w7 (w7.alloc (.cells #[.int .i64 k0, .slice B1 m1 e1, .slice B2 m2 e2] 109)) := (Bel.refl w7).alloc (Nat.le_refl _) _
      obtain ⟨w5, hW⟩ : ∃ X, w7.alloc (.cells #[.int .i64 k0, .slice B1 m1 e1, .slice B2 m2 e2] 109) = X := ⟨_, rfl⟩
      rw [hW] at PZ B5 ⊢
      clear hW
      obtain ⟨gp, hgp⟩ : ∃ x, w7.heap.size = x := ⟨_, rfl⟩
      rw [hgp] at PZ ⊢
      clear hgp
      have B5 := Lib.hid B5
      have GV := Lib.hid (Blk.bel G7 B5.out)
      have RV := Lib.hid (Kd.R_below R7.out B5.out)
      have MV : Hid (KW.M w5 B (fun k => w2.heap.size ≤ k ∧ k < w5.heap.size) sh [.int .i64 k0, .slice B1 m1 e1, .slice B2 m2 e2]) := Lib.hid (by
        obtain ⟨dd, hm⟩ := Kd.M_below (d := KW) hM.out B5.out
        exact ⟨dd, (hm.bound.mono (fun k hk => ⟨hk.2.1, hk.2.2.1⟩)).lower Z2.out⟩)
      have AV := Lib.hid (a7.out.under B5.out (by have := HNE.out; have := Z7.out; omega) (by have := HNE.out; have := Z7.out; omega))
      have ZV : Hid (B ≤ w5.heap.size) := Lib.hid (Nat.le_trans Z7.out B5.out.size)
      have TV := Lib.hid ((TH2.out.trans (Thr.of_two gs t7.out)).trans (Thr.of_two gs (Two.of_bel g q B5.out)))
      obtain ⟨p0, p1, p2⟩ := Blk.cells3 PZ
      have s2 : w5.cell? ⟨gs, 2, none⟩ = some (.slice A acc.length c) := GV.out.cell 2 rfl
      have hgs5 : gs < w5.heap.size := GV.out.lt
      have hgp5 : gp < w5.heap.size := PZ.lt
      have hll : ((acc.length : Nat) : Int) < (acc.length : Int) + 1 := by omega
      clear s0 G7 PZ
      go_upto_region 5 with (fail)
      have BV : Hid (Bel w5 (w5.alloc (.cells #[.int .i64 0, .slice none 0 0, .slice none 0 0] 25)).drew) := Lib.hid (bthen ((Bel.refl w5).alloc (Nat.le_refl _) _) (Bel.drew _))
      have NV : Hid (Blk (w5.alloc (.cells #[.int .i64 0, .slice none 0 0, .slice none 0 0] 25)).drew w5.heap.size #[.int .i64 0, .slice none 0 0, .slice none 0 0] 25) := Lib.hid (Blk.bel (Blk.new w5 #[.int .i64 0, .slice none 0 0, .slice none 0 0] 25) (Bel.drew _))
      have RV2 := Lib.hid (Kd.R_below RV.out BV.out)
      have ZV2 : Hid (B ≤ (w5.alloc (.cells #[.int .i64 0, .slice none 0 0, .slice none 0 0] 25)).drew.heap.size) := Lib.hid (Nat.le_trans ZV.out BV.out.size)
      go_region_law (first
        | (refine stepL rfl (appZsh2 (B := B) (.tmp 42) (.tmp 46) rfl rfl (.slice A acc.length c) acc w5.heap.size rfl rfl NV.out RV2.out ZV2.out HLEN.out ?_)
           intro v8 w8 h8 b8 gr8 at8
           obtain ⟨g8, cap8, d0, d1, d2, hv8, hcap, hBg, hlt8, hcur, hf8, e0, e1', e2'⟩ := h8.out.opens
           subst hv8
           have Y8 : Blk w8 gs #[.int .i64 kd, .slice A1 n1 c1, .slice A acc.length c] 25 := (b8.out.block gs HNE.out.2.2.2).trans (Blk.bel GV.out BV.out)
           have y2 : w8.cell? ⟨gs, 2, none⟩ = some (.slice A acc.length c) := Y8.cell 2 rfl
           have f8 := Y8.froz 2
           have fz0 := hf8 (acc.length * 3)
           have fz1 := hf8 (acc.length * 3 + 1)
           have fz2 := hf8 (acc.length * 3 + 2)
           have HY8 := Lib.hid Y8
           have HBG := Lib.hid hBg
           have hne1 : ¬ gs = g8 := by have := HNE.out; omega
           have hne2 : ¬ g8 = gs := by have := HNE.out; omega
           clear hf8 Y8 hcur hBg
           refine ⟨rfl, ?_⟩))
      all_goals
        have G8N : Hid (∀ k, (w2.heap.size ≤ k ∧ k < w5.heap.size) → k ≠ g8) := Lib.hid (fun k hk e => by
          subst e
          rcases at8.out with h1 | ⟨b, h1, h2⟩
          · have h3 := OW2.out k (h1.symm.trans rfl)
            omega
          · have h3 : k = b := Option.some.inj h1
            have := BV.out.size
            omega)
        have M8 : Hid (KW.M w8 B (fun k => w2.heap.size ≤ k ∧ k < w5.heap.size) sh [.int .i64 k0, .slice B1 m1 e1, .slice B2 m2 e2]) := Lib.hid (Kd.M_grown (d := KW) (Kd.M_below MV.out BV.out) gr8.out (fun k hk e => by have h3 := OW2.out k e.symm; omega))
        have L8 := Lib.hid (part_Lp HF.out HJ0.out ((AV.out.under BV.out (by have := HNE.out; have := ZV.out; omega) (by have := HNE.out; have := ZV.out; omega)).under b8.out HNE.out.2.1 HNE.out.2.2.1))
        have T8 : Hid (Thr W w8 g q gs) := Lib.hid ((TV.out.trans (Thr.of_two gs (Two.of_bel g q BV.out))).under b8.out (by have := HB.out; omega))
        first
          | (obtain ⟨W9, hW⟩ : ∃ X, (((w8.setCell ⟨g8, acc.length * 3, none⟩ (.int .i64 k0)).setCell ⟨g8, acc.length * 3 + 1, none⟩ (.slice B1 m1 e1)).setCell ⟨g8, acc.length * 3 + 2, none⟩ (.slice B2 m2 e2)).setCell ⟨gs, 2, none⟩ (.slice (some ⟨g8, 0, none⟩) (acc.length + 1) cap8) = X := ⟨_, rfl⟩
             rw [hW]
             have HST := Lib.hid (row_step (W9 := W9) (B := B) (g := g) (q := q) (V := w8) h8.out M8.out (fun k hk _ => by have h1 := G8N.out k hk; exact h1) HY8.out HBG.out HNE.out.2.2.2 HNE.out.2.1 HNE.out.2.2.1 HNE.out.1.1 HNE.out.1.2 (.inl hW.symm))
             clear hW)
          | (obtain ⟨W9, hW⟩ : ∃ X, (((w8.setCell ⟨gs, 2, none⟩ (.slice (some ⟨g8, 0, none⟩) (acc.length + 1) cap8)).setCell ⟨g8, acc.length * 3, none⟩ (.int .i64 k0)).setCell ⟨g8, acc.length * 3 + 1, none⟩ (.slice B1 m1 e1)).setCell ⟨g8, acc.length * 3 + 2, none⟩ (.slice B2 m2 e2) = X := ⟨_, rfl⟩
             rw [hW]
             have HST := Lib.hid (row_step (W9 := W9) (B := B) (g := g) (q := q) (V := w8) h8.out M8.out (fun k hk _ => by have h1 := G8N.out k hk; exact h1) HY8.out HBG.out HNE.out.2.2.2 HNE.out.2.1 HNE.out.2.2.1 HNE.out.1.1 HNE.out.1.2 (.inr hW.symm))
             clear hW)
        clear e0 e1' e2' y2 f8 fz0 fz1 fz2 s2 hne1 hne2 hll p0 p1 p2
        go_wp2
        go_roundw
        case rel => exact ⟨j - 1, some ⟨g8, 0, none⟩, cap8, acc ++ [sh], by rw [show ((j - 1 : Nat) : Int) = (j : Int) - 1 by have := HJ0.out; omega], Lib.hid (by have := HJJ.out; have := HJ0.out; simp; omega), Lib.hid HST.out.1, Lib.hid HST.out.2.1, Lib.hid (HST.out.2.2.1 _ _ _ _ L8.out), Lib.hid (HST.out.2.2.2 W (by have := HB.out; omega) T8.out)⟩
        case measure => have := HJ0.out; simp [intOf]; omega
    · have hgt : (0 : Int) < j := by omega
      have HF := Lib.hid hF
      have HD := Lib.hid hbad
      clear hbad hF hj
      go_wp2_with (go_at_call 75; refine (HD.out.ok).mono ?_; rintro e w2 ⟨rfl, g2, t2⟩)
      go_end0
      exact ⟨A, c, acc, rfl, Lib.hid (HG.out.two t2.out HNE.out.1.1 HNE.out.1.2), Lib.hid (R_two HR.out t2.out HNE.out.2.1 HNE.out.2.2.1), Lib.hid (by rw [HF.out]; exact g2.out.1), Lib.hid (HT.out.trans (Thr.of_two gs t2.out))⟩
end Go.Proofs.YtfknhpgelleenaaDoor.K
end
