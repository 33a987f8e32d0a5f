/- What a claim leans on, part 28, cut by a program out of the texts WShW. -/
import Derived.Handy
import Derived.Test.YtfknhpgelleenaaDoorZB3
import Derived.Test.YtfknhpgelleenaaDoorZB4
import Derived.Test.YtfknhpgelleenaaDoorZB12
import Derived.Test.YtfknhpgelleenaaDoorZB14
section
namespace Go.Proofs.YtfknhpgelleenaaDoor.K
open Go Go.RowKit Go.Proofs.YtfknhpgelleenaaDoorW.PrintWords Go.Proofs.YtfknhpgelleenaaDoorW.PrintLast Go.Proofs.YtfknhpgelleenaaDoorW.PrintMore
set_option linter.unusedVariables false
set_option linter.unusedSimpArgs false
open Go.Proofs.YtfknhpgelleenaaDoor.MShape (Sh flats)
open Go.Proofs.YtfknhpgelleenaaDoor.Open
/-- A shape that a call has made, with all its memory. -/
def MW : Nat → World → Nat → (Nat → Prop) → Sh → List Value → Prop
  | 0, _, _, _, _, _ => False
  | d + 1, W, base, ok, .mk kind pts ps, cs => ∃ v1 v2, cs = [.int .i64 kind, v1, v2] ∧ KPt.R 41 W base ok v1 pts ∧ (∀ k, v2.ownBlock = some k → ok k) ∧ OwnRow (MW d W base ok) 25 3 W base v2 ps
theorem MW.len {d : Nat} {W : World} {base : Nat} {ok : Nat → Prop} {s : Sh} {cs : List Value} (h : MW d W base ok s cs) : cs.length = 3 := by
  cases d with
  | zero => exact h.elim
  | succ d => cases s; obtain ⟨v1, v2, rfl, _⟩ := h; rfl
theorem MW.forms {d : Nat} {W : World} {base : Nat} {ok : Nat → Prop} {s : Sh} {cs : List Value} (h : MW d W base ok s cs) : ∃ (kind : Int) (a : Option Addr) (n m : Nat) (a' : Option Addr) (n' m' : Nat), cs = [.int .i64 kind, .slice a n m, .slice a' n' m'] := by
  cases d with
  | zero => exact h.elim
  | succ d =>
    cases s with
    | mk kind pts ps =>
    obtain ⟨v1, v2, rfl, h1, _, h2⟩ := h
    obtain ⟨A, c, rfl, _⟩ := Kd.R_reads h1
    obtain ⟨A', c', rfl, _⟩ := OwnRow.reads h2
    exact ⟨kind, A, _, c, A', _, c', rfl⟩
theorem MW.imp {W W' : World} {base base' : Nat} {ok ok' : Nat → Prop} (hR : ∀ v pts, KPt.R 41 W base ok v pts → KPt.R 41 W' base' ok' v pts)
    (hO : ∀ v n xs, (∀ k, v.ownBlock = some k → ok k) → W.ownsRow base 25 3 v n xs → (∀ k, v.ownBlock = some k → ok' k) ∧ W'.ownsRow base' 25 3 v n xs) : ∀ (d : Nat) {s : Sh} {cs : List Value}, MW d W base ok s cs → MW d W' base' ok' s cs
  | 0, _, _, h => h.elim
  | d + 1, .mk kind pts ps, cs, ⟨v1, v2, e, h1, h2, inner, ho, hr⟩ => by
    obtain ⟨h3, h4⟩ := hO v2 _ _ h2 ho
    exact ⟨v1, v2, e, hR _ _ h1, h3, inner, h4, hr.imp_ (fun _ _ hp => MW.imp hR hO d hp)⟩
theorem MW.mono {W : World} {base : Nat} {ok ok' : Nat → Prop} (hk : ∀ k, ok k → ok' k) {d : Nat} {s : Sh} {cs : List Value} (h : MW d W base ok s cs) : MW d W base ok' s cs :=
  MW.imp (fun _ _ h => Kd.R_mono h hk) (fun v _ _ hv ho => ⟨fun k e => hk k (hv k e), ho⟩) d h
theorem MW.bound {W : World} {base : Nat} {ok : Nat → Prop} {d : Nat} {s : Sh} {cs : List Value} (h : MW d W base ok s cs) : MW d W base (fun k => ok k ∧ base ≤ k ∧ k < W.heap.size ∧ ∃ q, q ∈ [41, 25] ∧ ∃ cells, W.heap[k]? = some (.cells cells q (0, 0))) s cs :=
  MW.imp (fun _ _ h => Kd.R_mono (Kd.R_bound h) (fun k hk => ⟨hk.1, hk.2.1, hk.2.2.1, by obtain ⟨q, hq, c⟩ := hk.2.2.2; exact ⟨q, by simp [KPt, Kd.pair, Kd.int, Kd.scalar] at hq ⊢; first | exact .inl hq | simp_all, c⟩⟩))
    (fun v _ _ hv ho => ⟨fun k e => ⟨hv k e, own_base ho k e, own_lt ho k e, 25, by simp, own_typed ho k e⟩, ho⟩) d h
theorem MW.move {W W' : World} {base : Nat} {ok : Nat → Prop} (hk : ∀ k, ok k → W'.heap[k]? = W.heap[k]?) {d : Nat} {s : Sh} {cs : List Value} (h : MW d W base ok s cs) : MW d W' base ok s cs :=
  MW.imp (fun _ _ h => Kd.R_move h hk) (fun v _ _ hv ho => ⟨hv, own_move ho (fun k e => hk k (hv k e))⟩) d h
theorem MW.lower {W : World} {base base' : Nat} {ok : Nat → Prop} (hb : base' ≤ base) {d : Nat} {s : Sh} {cs : List Value} (h : MW d W base ok s cs) : MW d W base' ok s cs :=
  MW.imp (fun _ _ h => Kd.R_lower h hb) (fun v _ _ hv ho => ⟨hv, own_weaken ho hb⟩) d h
theorem MW.deep {W : World} {base : Nat} {ok : Nat → Prop} : ∀ {d : Nat} {s : Sh} {cs : List Value}, MW d W base ok s cs → MW (d + 1) W base ok s cs
  | 0, _, _, h => h.elim
  | d + 1, .mk kind pts ps, cs, ⟨v1, v2, e, h1, h2, inner, ho, hr⟩ => ⟨v1, v2, e, h1, h2, inner, ho, hr.imp_ (fun _ _ hp => MW.deep hp)⟩
theorem MW.deeps {W : World} {base : Nat} {ok : Nat → Prop} {d d' : Nat} (hd : d ≤ d') {s : Sh} {cs : List Value} (h : MW d W base ok s cs) : MW d' W base ok s cs := by
  induction hd with
  | refl => exact h
  | step _ ih => exact ih.deep
/-- It is a shape that is read. -/
theorem MW.shB {W : World} {base : Nat} {ok : Nat → Prop} : ∀ {d : Nat} {s : Sh} {c : Value × Value × Value}, MW d W base ok s [c.1, c.2.1, c.2.2] → ShB W.heap.size W d c s
  | 0, _, _, h => h.elim
  | d + 1, .mk kind pts ps, c, ⟨v1, v2, e, h1, h2, h3⟩ => by
    simp only [List.cons.injEq, and_true] at e
    obtain ⟨e1, e2, e3⟩ := e
    obtain ⟨A, cp, hv1, hc1, hC⟩ := Kd.R_reads h1
    obtain ⟨A', cp', hv2, hc2, hC'⟩ := OwnRow.reads h3
    have hall : ∀ i, i < ps.length → ∃ x : Value × Value × Value, (∃ b off, A' = some ⟨b, off, none⟩ ∧ b < W.heap.size ∧ W.cell? ⟨b, off + i * 3, none⟩ = some x.1 ∧ W.cell? ⟨b, off + i * 3 + 1, none⟩ = some x.2.1 ∧ W.cell? ⟨b, off + i * 3 + 2, none⟩ = some x.2.2) ∧ ∀ p, ps[i]? = some p → ShB W.heap.size W d x p := fun i hi => by
      obtain ⟨ad, c, e, hl, hp, hc⟩ := hC'.get_ (.mk 0 [] []) (i : Int) (by omega) (by omega)
      obtain ⟨ad0, c0, e0, hl0, hp0, hc0⟩ := hC'.get_ (.mk 0 [] []) (0 : Int) (by omega) (by omega)
      obtain rfl := Option.some.inj (e.symm.trans e0)
      have hi2 : (i : Int).toNat = i := by omega
      rw [hi2] at hp hc
      match c, hl with
      | [y1, y2, y3], _ =>
      match c0, hl0 with
      | [z1, z2, z3], _ =>
      have g0 := hc0 0 _ rfl
      obtain ⟨b, off, rfl, hb⟩ := add_none (by simpa using g0)
      have f0 := hc 0 _ rfl
      have f1 := hc 1 _ rfl
      have f2 := hc 2 _ rfl
      rw [add_mid] at f0 f1 f2
      refine ⟨(y1, y2, y3), ⟨b, off, e, hb, f0, f1, f2⟩, fun p hp' => ?_⟩
      rw [List.getD_eq_getElem?_getD, hp'] at hp
      exact MW.shB (c := (y1, y2, y3)) hp
    obtain ⟨l, hll, hlx⟩ := list_of_lt hall
    refine ⟨e1, by rw [e2, hv1]; exact CPt.pts hC hc1, l, hll, ⟨A', cp', by rw [e3, hv2, hll], by omega, by have := hC'.2.1; omega, fun i hi => ?_⟩, fun i x p hx hp => ?_⟩
    · obtain ⟨⟨b, off, h4⟩, _⟩ := hlx i l[i] (List.getElem?_eq_getElem hi)
      exact ⟨b, off, h4⟩
    · exact (hlx i x hx).2 p hp
/-- Shapes of the call's own as a kind of values. -/
def KW : Kd Sh where
  sz := 3
  E := [41, 25]
  K := KSh.K
  M := fun W base ok s cs => ∃ d, MW d W base ok s cs
  K_len := KSh.K_len
  K_one := KSh.K_one
  K_below := KSh.K_below
  K_of_M := fun h => by
    obtain ⟨d, h⟩ := h
    obtain ⟨kd, a, n, m, a', n', m', rfl⟩ := h.forms
    exact ⟨d, (.int .i64 kd, .slice a n m, .slice a' n' m'), rfl, h.shB⟩
  M_mono := fun hk h => by obtain ⟨d, h⟩ := h; exact ⟨d, h.mono hk⟩
  M_bound := fun h => by obtain ⟨d, h⟩ := h; exact ⟨d, h.bound⟩
  M_move := fun hk h => by obtain ⟨d, h⟩ := h; exact ⟨d, h.move hk⟩
  M_lower := fun hb h => by obtain ⟨d, h⟩ := h; exact ⟨d, h.lower hb⟩
/-- Points, a row of parts: a shape. -/
theorem MW.of {W : World} {base : Nat} {ok : Nat → Prop} {kind : Int} {v1 v2 : Value} {pts : List (Int × Int)} {ps : List Sh} (h1 : KPt.R 41 W base ok v1 pts) (h2 : KW.R 25 W base ok v2 ps) : ∃ d, MW d W base ok (.mk kind pts ps) [.int .i64 kind, v1, v2] := by
  obtain ⟨h3, inner, ho, hl, hr⟩ := h2
  have hd : ∃ d, ∀ j p, ps[j]? = some p → MW d W base ok p ((inner.drop (j * 3)).take 3) := by
    have key : ∀ n, n ≤ ps.length → ∃ d, ∀ j p, j < n → ps[j]? = some p → MW d W base ok p ((inner.drop (j * 3)).take 3) := by
      intro n
      induction n with
      | zero => intro _; exact ⟨0, fun j p h => by omega⟩
      | succ n ih =>
        intro hn
        obtain ⟨d, hd⟩ := ih (by omega)
        obtain ⟨d', hd'⟩ := hr n ps[n] (List.getElem?_eq_getElem (by omega))
        refine ⟨max d d', fun j p hj hp => ?_⟩
        by_cases e : j = n
        · subst e
          obtain rfl := Option.some.inj ((List.getElem?_eq_getElem (by omega)).symm.trans hp)
          exact (hd'.mono (fun _ hk => hk.1)).deeps (Nat.le_max_right _ _)
        · exact (hd j p (by omega) hp).deeps (Nat.le_max_left _ _)
    obtain ⟨d, hd⟩ := key ps.length (Nat.le_refl _)
    exact ⟨d, fun j p hp => hd j p (List.getElem?_eq_some_iff.1 hp).1 hp⟩
  obtain ⟨d, hd⟩ := hd
  exact ⟨d + 1, v1, v2, rfl, h1, h3, inner, ho, hl, hd⟩
theorem infoSh : (Tryd.prog.info? 25).map (fun i => (i.zero, i.size, i.bytes)) = some (some (.agg #[.int .i64 0, .slice none 0 0, .slice none 0 0]), 3, 56) := by kernel_rfl
end Go.Proofs.YtfknhpgelleenaaDoor.K
end
