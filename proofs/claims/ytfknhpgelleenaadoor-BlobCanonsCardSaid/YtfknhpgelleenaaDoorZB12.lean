/- What a claim leans on, part 12, cut by a program out of the texts WShp. -/
import Derived.Handy
import Derived.Test.YtfknhpgelleenaaDoorZB3
import Derived.Test.YtfknhpgelleenaaDoorZB4
section
namespace Go.Proofs.YtfknhpgelleenaaDoor.K
open Go Go.RowKit Go.Proofs.YtfknhpgelleenaaDoorW.PrintWords Go.Proofs.YtfknhpgelleenaaDoorW.PrintLast Go.Proofs.YtfknhpgelleenaaDoorW.PrintMore
set_option linter.unusedVariables false
set_option linter.unusedSimpArgs false
open Go.Proofs.YtfknhpgelleenaaDoor.MShape (Sh)
open Go.Proofs.YtfknhpgelleenaaDoor.Open Go.ChangeShapes Go.WideShapes
/-- What lies in cells below B lies there still. -/
def KeepB (B : Nat) (W W' : World) : Prop := ∀ j, j < B → ∀ cs t r, W.heap[j]? = some (.cells cs t r) → W'.heap[j]? = some (.cells cs t r)
theorem KeepB.refl (B : Nat) (W : World) : KeepB B W W := fun _ _ _ _ _ h => h
theorem KeepB.trans {B : Nat} {X Y Z : World} (h : KeepB B X Y) (h' : KeepB B Y Z) : KeepB B X Z := fun j hj cs t r hc => h' j hj cs t r (h j hj cs t r hc)
theorem KeepB.bel {B : Nat} {X Y : World} (h : Bel X Y) : KeepB B X Y := fun j _ cs t r hc => (h.block j (Array.getElem?_eq_some_iff.1 hc).1).trans hc
theorem KeepB.grown {B q : Nat} {X Y : World} (h : X.grownBy Y (some q)) (hq : B ≤ q) : KeepB B X Y := fun j hj cs t r hc => (h.block j (Array.getElem?_eq_some_iff.1 hc).1 (fun e => by have := Option.some.inj e; omega)).trans hc
theorem KeepB.cell {B : Nat} {W W' : World} (h : KeepB B W W') {j i : Nat} {v : Value} (hj : j < B) (hc : W.cell? ⟨j, i, none⟩ = some v) : W'.cell? ⟨j, i, none⟩ = some v := by
  unfold World.cell? at hc ⊢
  cases ho : W.heap[j]? with
  | none => rw [ho] at hc; simp at hc
  | some o =>
    cases o with
    | cells cs t r => rw [h j hj cs t r ho]; rw [ho] at hc; exact hc
    | _ => rw [ho] at hc; simp at hc
/-- Points in a row, in a block below B. -/
def PtsB (B : Nat) (W : World) (v : Value) (pts : List (Int × Int)) : Prop :=
  ∃ a cap, v = .slice a pts.length cap ∧ pts.length ≤ cap ∧ pts.length ≤ 9223372036854775807 ∧ ∀ i (hi : i < pts.length), ∃ b off, a = some ⟨b, off, none⟩ ∧ b < B ∧ W.cell? ⟨b, off + i * 2, none⟩ = some (.int .i64 (pts[i]'hi).1) ∧ W.cell? ⟨b, off + i * 2 + 1, none⟩ = some (.int .i64 (pts[i]'hi).2)
/-- Shapes' cells in a row, in a block below B. -/
def PartsB (B : Nat) (W : World) (v : Value) (ps : List (Value × Value × Value)) : Prop :=
  ∃ a cap, v = .slice a ps.length cap ∧ ps.length ≤ cap ∧ ps.length ≤ 9223372036854775807 ∧ ∀ i (hi : i < ps.length), ∃ b off, a = some ⟨b, off, none⟩ ∧ b < B ∧ W.cell? ⟨b, off + i * 3, none⟩ = some (ps[i]'hi).1 ∧ W.cell? ⟨b, off + i * 3 + 1, none⟩ = some (ps[i]'hi).2.1 ∧ W.cell? ⟨b, off + i * 3 + 2, none⟩ = some (ps[i]'hi).2.2
/-- A shape, by its three cells; all that it leads to lies below B. -/
def ShB (B : Nat) (W : World) : Nat → Value × Value × Value → Sh → Prop
  | 0, _, _ => False
  | d + 1, c, .mk kind pts ps => c.1 = .int .i64 kind ∧ PtsB B W c.2.1 pts ∧ ∃ cs : List (Value × Value × Value), cs.length = ps.length ∧ PartsB B W c.2.2 cs ∧ ∀ (i : Nat) x p, cs[i]? = some x → ps[i]? = some p → ShB B W d x p
theorem PtsB.keep {B : Nat} {W W' : World} (h : KeepB B W W') {v : Value} {pts : List (Int × Int)} (hp : PtsB B W v pts) : PtsB B W' v pts := by
  obtain ⟨a, cap, hv, hc, hm, hx⟩ := hp
  exact ⟨a, cap, hv, hc, hm, fun i hi => by obtain ⟨b, off, e, hb, h1, h2⟩ := hx i hi; exact ⟨b, off, e, hb, h.cell hb h1, h.cell hb h2⟩⟩
theorem PartsB.keep {B : Nat} {W W' : World} (h : KeepB B W W') {v : Value} {ps : List (Value × Value × Value)} (hp : PartsB B W v ps) : PartsB B W' v ps := by
  obtain ⟨a, cap, hv, hc, hm, hx⟩ := hp
  exact ⟨a, cap, hv, hc, hm, fun i hi => by obtain ⟨b, off, e, hb, h1, h2, h3⟩ := hx i hi; exact ⟨b, off, e, hb, h.cell hb h1, h.cell hb h2, h.cell hb h3⟩⟩
theorem ShB.keep {B : Nat} {W W' : World} (h : KeepB B W W') : ∀ (d : Nat) {c : Value × Value × Value} {s : Sh}, ShB B W d c s → ShB B W' d c s
  | 0, _, _, hs => hs.elim
  | d + 1, c, .mk kind pts ps, ⟨h1, h2, cs, h3, h4, h5⟩ => ⟨h1, h2.keep h, cs, h3, h4.keep h, fun i x p hx hp => ShB.keep h d (h5 i x p hx hp)⟩
theorem PtsB.mono {B B' : Nat} (hB : B ≤ B') {W : World} {v : Value} {pts : List (Int × Int)} (hp : PtsB B W v pts) : PtsB B' W v pts := by
  obtain ⟨a, cap, hv, hc, hm, hx⟩ := hp
  exact ⟨a, cap, hv, hc, hm, fun i hi => by obtain ⟨b, off, e, hb, h1, h2⟩ := hx i hi; exact ⟨b, off, e, by omega, h1, h2⟩⟩
theorem PartsB.mono {B B' : Nat} (hB : B ≤ B') {W : World} {v : Value} {ps : List (Value × Value × Value)} (hp : PartsB B W v ps) : PartsB B' W v ps := by
  obtain ⟨a, cap, hv, hc, hm, hx⟩ := hp
  exact ⟨a, cap, hv, hc, hm, fun i hi => by obtain ⟨b, off, e, hb, h1, h2, h3⟩ := hx i hi; exact ⟨b, off, e, by omega, h1, h2, h3⟩⟩
theorem ShB.mono {B B' : Nat} (hB : B ≤ B') {W : World} : ∀ (d : Nat) {c : Value × Value × Value} {s : Sh}, ShB B W d c s → ShB B' W d c s
  | 0, _, _, hs => hs.elim
  | d + 1, c, .mk kind pts ps, ⟨h1, h2, cs, h3, h4, h5⟩ => ⟨h1, h2.mono hB, cs, h3, h4.mono hB, fun i x p hx hp => ShB.mono hB d (h5 i x p hx hp)⟩
theorem ShB.deep {B : Nat} {W : World} : ∀ (d : Nat) {c : Value × Value × Value} {s : Sh}, ShB B W d c s → ShB B W (d + 1) c s
  | 0, _, _, hs => hs.elim
  | d + 1, c, .mk kind pts ps, ⟨h1, h2, cs, h3, h4, h5⟩ => ⟨h1, h2, cs, h3, h4, fun i x p hx hp => ShB.deep d (h5 i x p hx hp)⟩
theorem ShB.forms {B : Nat} {W : World} {d : Nat} {c : Value × Value × Value} {s : Sh} (h : ShB B W d c s) : ∃ (kind : Int) (a : Option Addr) (n m : Nat) (a' : Option Addr) (n' m' : Nat), c = (.int .i64 kind, .slice a n m, .slice a' n' m') := by
  cases d with
  | zero => exact h.elim
  | succ d =>
    cases s with
    | mk kind pts ps =>
      obtain ⟨h1, ⟨a, m, e, _⟩, cs, h3, ⟨a', m', e', _⟩, _⟩ := h
      exact ⟨kind, a, pts.length, m, a', cs.length, m', Prod.ext h1 (Prod.ext e e')⟩
/-- All numbers are a machine's. -/
def I6 (n : Int) : Prop := (Lit.int .i64 n).wf = true
mutual
def shOk : Sh → Prop
  | .mk k pts ps => I6 k ∧ (∀ p ∈ pts, I6 p.1 ∧ I6 p.2) ∧ shOks ps
def shOks : List Sh → Prop
  | [] => True
  | p :: ps => shOk p ∧ shOks ps
end
theorem shOks_of : ∀ (l : List Sh), (∀ s ∈ l, shOk s) → shOks l
  | [], _ => trivial
  | p :: ps, h => ⟨h p (by simp), shOks_of ps (fun s hs => h s (by simp [hs]))⟩
theorem opens_pts : Opens Tryd.prog 22 (Kd.slice 41 (Kd.pair (Kd.int .i64) (Kd.int .i64))) (fun xs => (∀ x ∈ xs, (Lit.int .i64 x.1).wf = true ∧ (Lit.int .i64 x.2).wf = true) ∧ xs.length ≤ 9223372036854775807) :=
  opens_slice Tryd.underlying22 (by kernel_rfl) (opens_struct Tryd.underlying41 (by kernel_rfl) (opF_cons (a := Kd.int .i64) (b := Kd.int .i64) (Qa := fun n => (Lit.int .i64 n).wf = true) (Qb := fun n => (Lit.int .i64 n).wf = true) (by kernel_rfl) (by kernel_rfl) (opens_int Tryd.underlying3) (opF_one (d := Kd.int .i64) (Q := fun n => (Lit.int .i64 n).wf = true) (by kernel_rfl) (by kernel_rfl) (opens_int Tryd.underlying3))))
theorem add_mid (b o j : Nat) : (⟨b, o, none⟩ : Addr).add j = ⟨b, o + j, none⟩ := by unfold Addr.add; split <;> simp_all
theorem add_none {W : World} {a : Addr} {v : Value} (h : W.cell? (a.add 0) = some v) : ∃ b o, a = ⟨b, o, none⟩ ∧ b < W.heap.size := by
  have h0 : a.add 0 = a := by unfold Addr.add; rw [if_pos rfl]
  rw [h0] at h
  obtain ⟨b, o, sp⟩ := a
  exact ⟨b, o, by rw [show sp = none from World.cell?_spot h], World.block_lt_of_cell? _ _ h⟩
theorem ptsB_of {W : World} {A : Option Addr} {c : Nat} {l : List (Int × Int)} (hc : l.length ≤ c) (hl : l.length ≤ 9223372036854775807) (h : (Kd.pair (Kd.int .i64) (Kd.int .i64)).C W A l.length l) : PtsB W.heap.size W (.slice A l.length c) l := by
  refine ⟨A, c, rfl, hc, hl, fun i hi => ?_⟩
  obtain ⟨ad, cs0, rfl, _, hK0, hx0⟩ := Kd.C_get h (0, 0) (0 : Int) (by omega) (by omega)
  obtain ⟨k1, k2, e, hk1, _⟩ := hK0
  have e0 : cs0[0]? = some (.int .i64 (l.getD (0 : Int).toNat (0, 0)).1) := by rw [e, show k1 = _ from hk1]; rfl
  obtain ⟨b, off, rfl, hb⟩ := add_none (by have := hx0 0 _ e0; simpa using this)
  obtain ⟨ad, cs, ea, hl', hK, hx⟩ := Kd.C_get h (0, 0) (i : Int) (by omega) (by omega)
  obtain rfl := Option.some.inj ea
  have hg : l.getD (i : Int).toNat (0, 0) = l[i] := by rw [Int.toNat_natCast, List.getD_eq_getElem?_getD, List.getElem?_eq_getElem hi]; rfl
  rw [hg] at hK
  obtain ⟨c1, c2, e, k1, k2⟩ := hK
  obtain rfl : c1 = [.int .i64 l[i].1] := k1
  obtain rfl : c2 = [.int .i64 l[i].2] := k2
  subst e
  have h0 := hx 0 _ rfl
  have h1 := hx 1 _ rfl
  rw [Int.toNat_natCast, add_mid] at h0 h1
  exact ⟨b, off, rfl, hb, h0, h1⟩
set_option maxRecDepth 100000 in
/-- From an argument's reading to a shape in memory. -/
theorem opens_sh : ∀ (N : Nat) (H : Type) (enc : TypeId × Value → H) (W : World) (fuel : Nat), fuel < N → ∀ (cs : List Value) (r : DataW H × List MemPlace), DataW.trod enc Tryd.prog W 0 (fun _ => true) true fuel 25 cs = some r →
    ∃ c s, cs = [c.1, c.2.1, c.2.2] ∧ ShB W.heap.size W fuel c s ∧ shOk s := by
  intro N
  induction N with
  | zero => intro H enc W fuel h; omega
  | succ N ih =>
    intro H enc W fuel hfu cs r h
    obtain ⟨xs, n, rfl, rfl, hl, hlen, hf⟩ := DataW.trod_struct Tryd.underlying25 h
    have hc : Tryd.prog.cellsOf 25 = 3 := by kernel_rfl
    have hc1 : Tryd.prog.cellsOf 3 = 1 := by kernel_rfl
    have hc2 : Tryd.prog.cellsOf 22 = 1 := by kernel_rfl
    have hc3 : Tryd.prog.cellsOf 23 = 1 := by kernel_rfl
    rw [hc] at hl
    match cs, hl with
    | [v1, v2, v3], _ =>
      have f0 : DataW.trod enc Tryd.prog W 0 (fun _ => true) true n 3 (([v1, v2, v3].drop 0).take (Tryd.prog.cellsOf 3)) = xs[0]? := hf 0 _ rfl
      have f1 : DataW.trod enc Tryd.prog W 0 (fun _ => true) true n 22 (([v1, v2, v3].drop 1).take (Tryd.prog.cellsOf 22)) = xs[1]? := hf 1 _ rfl
      have f2 : DataW.trod enc Tryd.prog W 0 (fun _ => true) true n 23 (([v1, v2, v3].drop 2).take (Tryd.prog.cellsOf 23)) = xs[2]? := hf 2 _ rfl
      rw [hc1] at f0; rw [hc2] at f1; rw [hc3] at f2
      have hx : xs.length = 3 := hlen
      obtain ⟨x0, hx0⟩ : ∃ x, xs[0]? = some x := ⟨_, List.getElem?_eq_getElem (by omega)⟩
      obtain ⟨x1, hx1⟩ : ∃ x, xs[1]? = some x := ⟨_, List.getElem?_eq_getElem (by omega)⟩
      obtain ⟨x2, hx2⟩ : ∃ x, xs[2]? = some x := ⟨_, List.getElem?_eq_getElem (by omega)⟩
      rw [hx0] at f0; rw [hx1] at f1; rw [hx2] at f2
      obtain ⟨kind, hk, _, hw⟩ := DataW.trod_int Tryd.underlying3 f0
      obtain ⟨pts, ⟨A1, c1, e1, hl1, hC1⟩, hq1, hq2⟩ := opens_pts H enc W _ _ _ f1
      have ek : v1 = .int .i64 kind := by simpa using hk
      have ep : v2 = .slice A1 pts.length c1 := by simpa using e1
      have hP := ptsB_of hl1 hq2 hC1
      have f2' : DataW.trod enc Tryd.prog W 0 (fun _ => true) true n 23 [v3] = some x2 := f2
      rcases DataW.trod_slice Tryd.underlying23 f2' with ⟨e3, _⟩ | ⟨a, len, cap, elems, rest, n', rfl, e3, _, _, hlc, hcm, hel, hx, hsp, _⟩
      · have e3' : v3 = .slice none 0 0 := by simpa using e3
        refine ⟨(v1, v2, v3), .mk kind pts [], rfl, ⟨ek, by rw [ep]; exact hP, [], rfl, ⟨none, 0, e3', Nat.le_refl _, Nat.zero_le _, fun i hi => absurd hi (Nat.not_lt_zero _)⟩, fun i x p hi => by simp at hi⟩, hw, hq1, trivial⟩
      · have e3' : v3 = .slice (some a) len cap := by simpa using e3
        have hall : ∀ i, i < len → ∃ q : (Value × Value × Value) × Sh, W.cells? 0 (a.add (i * 3)) 3 = some [q.1.1, q.1.2.1, q.1.2.2] ∧ ShB W.heap.size W n' q.1 q.2 ∧ shOk q.2 := fun i hi => by
          have h1 := hx i hi
          rw [hc, List.getElem?_eq_getElem (by omega)] at h1
          cases hcs : W.cells? 0 (a.add (i * 3)) 3 with
          | none => rw [hcs] at h1; simp at h1
          | some cs' =>
            rw [hcs, Option.bind_some] at h1
            obtain ⟨c, s, rfl, hs, ho⟩ := ih H enc W n' (by omega) cs' _ h1
            exact ⟨(c, s), rfl, hs, ho⟩
        obtain ⟨l, hll, hlx⟩ := list_of_lt hall
        have hnone : 0 < len → ∃ b o, a = ⟨b, o, none⟩ ∧ b < W.heap.size := fun h0 => by
          obtain ⟨q, h1, _⟩ := hall 0 h0
          obtain ⟨_, _, hcell⟩ := World.cells?_some h1
          have g0 := hcell 0 (by omega)
          rw [Nat.zero_mul] at g0
          have ha : a.add 0 = a := by unfold Addr.add; rw [if_pos rfl]
          rw [ha] at g0
          exact add_none g0
        simp only [maxLen] at hcm
        refine ⟨(v1, v2, v3), .mk kind pts (l.map (·.2)), rfl, ⟨ek, by rw [ep]; exact hP, l.map (·.1), by simp, ⟨some a, cap, by rw [e3', List.length_map, hll], by rw [List.length_map]; omega, by rw [List.length_map]; omega, fun i hi => ?_⟩, fun i x p hi hp => ?_⟩, hw, hq1, shOks_of _ (fun s hs => ?_)⟩
        · rw [List.length_map] at hi
          obtain ⟨h1, _, _⟩ := hlx i l[i] (List.getElem?_eq_getElem hi)
          obtain ⟨_, _, hcell⟩ := World.cells?_some h1
          have g0 := hcell 0 (by omega); have g1 := hcell 1 (by omega); have g2 := hcell 2 (by omega)
          simp only [List.getElem?_cons_zero, List.getElem?_cons_succ] at g0 g1 g2
          obtain ⟨b, off, rfl, hb⟩ := hnone (by omega)
          rw [add_mid, add_mid] at g0 g1 g2
          simp only [List.getElem_map]
          exact ⟨b, off, rfl, hb, g0, g1, g2⟩
        · rw [List.getElem?_map] at hi hp
          cases hli : l[i]? with
          | none => rw [hli] at hi; simp at hi
          | some q =>
            rw [hli] at hi hp
            obtain rfl := Option.some.inj hi
            obtain rfl := Option.some.inj hp
            exact ShB.deep _ (hlx i q hli).2.1
        · obtain ⟨q, hq, rfl⟩ := List.mem_map.1 hs
          obtain ⟨i, hi, rfl⟩ := List.mem_iff_getElem.1 hq
          exact (hlx i _ (List.getElem?_eq_getElem hi)).2.2
/-- Shapes as a kind of values. -/
def KSh : Kd Sh where
  sz := 3
  E := []
  K := fun w s cs => ∃ d c, cs = [c.1, c.2.1, c.2.2] ∧ ShB w.heap.size w d c s
  M := fun _ _ _ _ _ => False
  K_len := fun h => by obtain ⟨d, c, rfl, _⟩ := h; rfl
  K_one := fun h u hu => by
    obtain ⟨d, c, rfl, hs⟩ := h
    obtain ⟨kd, a, n, m, a', n', m', rfl⟩ := hs.forms
    simp only [List.mem_cons, List.not_mem_nil, or_false] at hu
    rcases hu with rfl | rfl | rfl <;> rfl
  K_below := fun hb h => by
    obtain ⟨d, c, e, hs⟩ := h
    exact ⟨d, c, e, (hs.keep (KeepB.bel hb)).mono hb.size⟩
  K_of_M := fun h => h.elim
  M_mono := fun _ h => h
  M_bound := fun h => h.elim
  M_move := fun _ h => h
  M_lower := fun _ h => h
theorem opens_shape : Opens Tryd.prog 25 KSh shOk := fun H enc w fuel cs r h => by
  obtain ⟨c, s, e, hs, ho⟩ := opens_sh (fuel + 1) H enc w fuel (by omega) cs r h
  exact ⟨s, ⟨fuel, c, e, hs⟩, ho⟩
end Go.Proofs.YtfknhpgelleenaaDoor.K
end
