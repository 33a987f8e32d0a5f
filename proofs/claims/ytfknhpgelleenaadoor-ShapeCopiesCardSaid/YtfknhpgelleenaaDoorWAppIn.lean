/- append of a point inside a fence; a row of points of the call's own. -/
import Derived.Test.YtfknhpgelleenaaDoorKB
import Derived.Handy
import Derived.Test.YtfknhpgelleenaaDoorKM
import Derived.Test.YtfknhpgelleenaaDoorWShp
import Derived.Test.YtfknhpgelleenaaDoorWPts
import Derived.Test.YtfknhpgelleenaaDoorWEachR
namespace Go.Proofs.YtfknhpgelleenaaDoor.K
open Go Go.RowKit Go.Proofs.YtfknhpgelleenaaDoorW.PrintWords Go.Proofs.YtfknhpgelleenaaDoorW.PrintLast Go.Proofs.YtfknhpgelleenaaDoorW.PrintMore
set_option linter.unusedVariables false
set_option linter.unusedSimpArgs false
open Go.Shelf
open Go.Proofs.YtfknhpgelleenaaDoor.MShape (Sh flats)
section
variable {F : Fence} {n : Nat} {ops : Array Oper} {rest : List Oper} {o : Oper} {a : Act} {Q : Exit → Act → World → Prop}
/-- append(points, point) inside a fence; what stays, and where the row then lies. -/
theorem appPt_in {w0 W : World} (s x : Operand) (hgd : o.guard = none) (ho : o.op = .call { callee := .builtin .append, args := #[s, x], argTypes := #[22, 22] })
    (v : Value) (xs : List (Int × Int)) (p : Int × Int) (hs : a.eval s = v) (hx : a.eval x = .slice (some ⟨W.heap.size, 0, none⟩) 1 1)
    (HO : RPt w0 W v xs) (HB : Below w0.heap.size w0 W) (hl : xs.length + 1 < 100000000)
    (h : ∀ v1 w1, Hid (RPt w0 w1 v1 (xs ++ [p])) → Hid (Below w0.heap.size w0 w1) → Hid (W.grownBy w1 v.ownBlock) → Hid (v1.ownBlock = v.ownBlock ∨ ∃ b, v1.ownBlock = some b ∧ W.heap.size ≤ b) → wpListIn F n Tryd.prog ops Q rest (a.put o.dst v1) w1) :
    wpListIn F n Tryd.prog ops Q (o :: rest) a (W.alloc (.cells #[.int .i64 p.1, .int .i64 p.2] 41)) := by
  obtain ⟨i0, hi, hzz⟩ := Option.map_eq_some_iff.1 infoPt
  simp only [Prod.mk.injEq] at hzz
  obtain ⟨hz0, hz1, hz2⟩ := hzz
  have HO' := HO
  obtain ⟨h0, inner, hown, hr⟩ := HO
  refine wpListIn_plain hgd fun K hK' => ?_
  obtain ⟨v1, w1, hrun, hown1, hg, hnn, hat⟩ := run_append_own_at (P := Tryd.prog) (W.alloc (.cells #[.int .i64 p.1, .int .i64 p.2] 41)) w0.heap.size 22 o.type 41 i0 (.agg #[.int .i64 0, .int .i64 0]) 2 16 Tryd.underlying22 hi hz0 hz1 hz2 rfl (by decide) v xs.length inner (hown.alloc _) ⟨W.heap.size, 0, none⟩ 1 1 [.int .i64 p.1, .int .i64 p.2] rfl
    (by simpa using World.news_of_block (cs := #[.int .i64 p.1, .int .i64 p.2]) (t := 41) (fr := (0, 0)) (heap_alloc_new W (.cells #[.int .i64 p.1, .int .i64 p.2] 41))) (by intro u hu; simp only [List.mem_cons, List.not_mem_nil, or_false] at hu; rcases hu with rfl | rfl <;> rfl) (by simp only [maxLen]; omega) (by omega) (by have := HB.size; simp; omega)
  unfold Oper.wpIn
  refine ⟨?_, ?_⟩
  · simp [Oper.about, ho, resolve, Target.leads, Sem.run_pure]
  · rw [Oper.semAt_plain F _ _ (by rw [ho]; intro c hc'; cases hc')]
    simp [execOp, ho, resolve, invoke, builtin, hs, hx, hrun, Result.andThen]
    have hg1 : W.grownBy w1 v.ownBlock := World.grownBy.trans (World.grownBy_alloc W _ _) hg
    have hat1 : v1.ownBlock = v.ownBlock ∨ ∃ b, v1.ownBlock = some b ∧ W.heap.size ≤ b := by
      rcases hat with hat | hat
      · exact .inl hat
      · exact .inr ⟨_, hat, by simp⟩
    refine hK' _ _ (h v1 w1 (Lib.hid ?_) (Lib.hid ?_) (Lib.hid hg1) (Lib.hid hat1))
    · exact Kd.R_appended (d := KPt) (okp := fun _ => False) h0 hr (show KPt.M W w0.heap.size (fun _ => False) p [.int .i64 p.1, .int .i64 p.2] from ⟨_, _, rfl, rfl, rfl⟩) (fun _ hk => hk.elim) (fun _ _ => trivial) hown1 hg1 hat1
    · exact (HB.alloc HB.size _).grown hg (by have := HB.size; simp; omega) (fun k e => (hown.lt k e).1)
end
theorem RPt.own_lt {w0 W : World} {v : Value} {l : List (Int × Int)} (h : RPt w0 W v l) : ∀ q, v.ownBlock = some q → w0.heap.size ≤ q ∧ q < W.heap.size := by
  obtain ⟨_, inner, hown, _⟩ := h
  exact hown.lt
theorem RPt.own_cells {w0 W : World} {v : Value} {l : List (Int × Int)} (h : RPt w0 W v l) : ∀ j o, v.ownBlock = some j → W.heap[j]? = some o → o.isCells = true := by
  obtain ⟨_, inner, hown, _⟩ := h
  intro j o hj ho
  rcases hown.2 with ⟨rfl, _⟩ | ⟨g, cap, cur, rfl, _, hh, _⟩
  · simp [Value.ownBlock] at hj
  · obtain rfl : g = j := by simpa [Value.ownBlock] using hj
    rw [hh] at ho
    cases ho
    rfl
theorem RPt.put {w0 W W' : World} {v : Value} {l : List (Int × Int)} (h : RPt w0 W v l) {row : Option Nat} (hg : W.grownBy W' row) (hr : ∀ r, row = some r → ∃ o : Obj, W.heap[r]? = some o ∧ o.isCells = false) : RPt w0 W' v l :=
  Kd.R_grown2 h rfl hg (fun k hk e => by
    obtain ⟨o, ho, hc⟩ := hr k hk
    have := h.own_cells k o e.symm ho
    rw [hc] at this
    cases this)
theorem RPt.ne {w0 W : World} {v : Value} {l : List (Int × Int)} (h : RPt w0 W v l) {g t : Nat} {cs : Array Value} (hb : Blk W g cs t) (ht : 41 ≠ t) : some g ≠ v.ownBlock := Kd.R_ne h hb ht
theorem RPt.set {w0 W : World} {v : Value} {l : List (Int × Int)} (h : RPt w0 W v l) {g i : Nat} (hg : some g ≠ v.ownBlock) (u : Value) : RPt w0 (W.setCell ⟨g, i, none⟩ u) v l :=
  Kd.R_mono (Kd.R_far (p := ⟨g, i, none⟩) (Kd.R_tight rfl h) (fun k hk e => hg (by rw [← hk]; exact congrArg some e.symm)) u) (fun k hk => trivial)

end Go.Proofs.YtfknhpgelleenaaDoor.K
