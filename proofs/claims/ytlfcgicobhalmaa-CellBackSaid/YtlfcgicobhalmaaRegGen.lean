/- A region that draws its order, with operations that turn the world once: what is known of the world may hang on what has been done. -/
import Derived.Test.YtlfcgicobhalmaaReg
namespace Go.Proofs.Ytlfcgicobhalmaa.Reg
open Go Go.RowKit Go.Proofs.YtlfcgicobhalmaaW.PrintLast
set_option linter.unusedVariables false
set_option linter.unusedSimpArgs false
/-- What is done, and one more. -/
def mark (m : Nat → Bool) (i : Nat) : Nat → Bool := fun j => if j = i then true else m j
section
variable {P : Program} {ops : Array Oper} {Q : Exit → Act → World → Prop}
def Ob2 (P : Program) (ops : Array Oper) (Q : Exit → Act → World → Prop) (Ext : Nat → World → World → Prop) (R : Nat → Value → World → Prop) (i : Nat) (o : Oper) (a : Act) (W : World) (G : World → Prop) : Prop :=
  if Region.wanted o (yielded ops a.tmps) then o.wp P a W (fun a' W' => ∃ v, a' = a.put o.dst v ∧ Ext i W W' ∧ R i v W' ∧ G W') Q else R i undef W ∧ G W
structure Held2 (ops : Array Oper) (a0 : Act) (kills : List (Nat × Nat)) (R : Nat → Value → World → Prop) (l : Array Bool) (a : Act) (W : World) : Prop where
  size : a.tmps.size = a0.tmps.size
  defers : a.defers = a0.defers
  len : l.size = ops.size
  closed : ListedClosed .any ops l
  got : ∀ (j : Nat) (oj : Oper) (d : Tmp), ops[j]? = some oj → oj.dst = some d → l.getD j false = true → (∀ i, kills.contains (i, j) = true → l.getD i false = false) → R j (a.tmps.getD d undef) W
  did : ∀ (j : Nat) (oj : Oper), ops[j]? = some oj → oj.dst = none → l.getD j false = true → (∀ i, kills.contains (i, j) = true → l.getD i false = false) → ∃ v, R j v W
  old : ∀ d : Nat, (∀ (j : Nat) (oj : Oper), ops[j]? = some oj → l.getD j false = true → oj.dst ≠ some d) → a.tmps.getD d undef = a0.tmps.getD d undef

/-- One step keeps what is held. -/
theorem Held2.step {a0 a : Act} {R : Nat → Value → World → Prop} {Ext : Nat → World → World → Prop} {kills : List (Nat × Nat)} {l : Array Bool} {W W' : World} {i : Nat} {oi : Oper} {v : Value}
    (hs : slotsB ops a0.tmps.size = true) (hR : ∀ i j v W W', i ≠ j → kills.contains (i, j) = false → Region.reachB .any ops i ops.size j = false → Ext i W W' → R j v W → R j v W') (h : Held2 ops a0 kills R l a W) (hi : i ∈ Region.ready .any ops l) (hoi : ops[i]? = some oi) (hE : Ext i W W') (hv : R i v W') :
    Held2 ops a0 kills R (l.setIfInBounds i true) (a.put oi.dst v) W' := by
  have hlt : i < ops.size := (Array.getElem?_eq_some_iff.1 hoi).1
  have hset : ∀ j, (l.setIfInBounds i true).getD j false = true → j = i ∨ l.getD j false = true := by
    intro j hj
    simp only [Array.getD_eq_getD_getElem?, Array.getElem?_setIfInBounds] at hj ⊢
    by_cases e : i = j
    · exact .inl e.symm
    · rw [if_neg e] at hj; exact .inr hj
  have hfar : ∀ j, l.getD j false = true → Region.reachB .any ops i ops.size j = false := fun j hj => by
    rcases hq : Region.reachB .any ops i ops.size j with _ | _
    · rfl
    · have h1 := Region.reach_listed h.closed _ _ hq hj
      have h2 := (mem_ready.1 hi).1
      simp only [Array.getD_eq_getD_getElem?] at h1 h2
      rw [Array.getElem?_eq_getElem (by rw [h.len]; exact hlt)] at h1 h2
      simp only [Option.getD_some] at h1 h2
      rw [h1] at h2
      cases h2
  have hkeep : ∀ j, l.getD j false = true → (l.setIfInBounds i true).getD j false = true := by
    intro j hj
    simp only [Array.getD_eq_getD_getElem?, Array.getElem?_setIfInBounds] at hj ⊢
    by_cases e : i = j
    · subst e; rw [if_pos rfl, if_pos (by rw [h.len]; exact hlt)]; rfl
    · rw [if_neg e]; exact hj
  have hself : (l.setIfInBounds i true).getD i false = true := by
    simp only [Array.getD_eq_getD_getElem?, Array.getElem?_setIfInBounds]
    rw [if_pos trivial, if_pos (by rw [h.len]; exact hlt)]; rfl
  refine ⟨?_, ?_, by simp [h.len], h.closed.set hi, ?_, ?_, ?_⟩
  · cases oi.dst <;> simp [Act.put, h.size]
  · cases oi.dst <;> simp [Act.put, h.defers]
  · intro j oj d hj hd hl hk
    have hk2 : ∀ i', kills.contains (i', j) = true → l.getD i' false = false := fun i' h' => by
      have := hk i' h'
      rcases hq : l.getD i' false with _ | _
      · rfl
      · rw [hkeep i' hq] at this; cases this
    have hki : kills.contains (i, j) = false := by
      rcases hq : kills.contains (i, j) with _ | _
      · rfl
      · have := hk i hq; rw [hself] at this; cases this
    by_cases e : j = i
    · subst e
      obtain rfl : oj = oi := Option.some.inj (hj.symm.trans hoi)
      rw [hd, getD_put, if_pos ⟨rfl, by rw [h.size]; exact slots_lt hs hj hd⟩]
      exact hv
    · have hlj : l.getD j false = true := (hset j hl).resolve_left e
      have hold := hR i j _ _ _ (fun h => e h.symm) hki (hfar j hlj) hE (h.got j oj d hj hd hlj hk2)
      cases hdi : oi.dst with
      | none => exact hold
      | some d' =>
        rw [getD_put, if_neg (fun hh => e (slots_inj hs hj hd hoi (by rw [hdi, hh.1])))]
        exact hold
  · intro j oj hj hd hl hk
    have hk2 : ∀ i', kills.contains (i', j) = true → l.getD i' false = false := fun i' h' => by
      have := hk i' h'
      rcases hq : l.getD i' false with _ | _
      · rfl
      · rw [hkeep i' hq] at this; cases this
    have hki : kills.contains (i, j) = false := by
      rcases hq : kills.contains (i, j) with _ | _
      · rfl
      · have := hk i hq; rw [hself] at this; cases this
    by_cases e : j = i
    · subst e
      exact ⟨v, hv⟩
    · obtain ⟨u, hu⟩ := h.did j oj hj hd ((hset j hl).resolve_left e) hk2
      exact ⟨u, hR i j _ _ _ (fun h => e h.symm) hki (hfar j ((hset j hl).resolve_left e)) hE hu⟩
  · intro d hd
    have h1 : a.tmps.getD d undef = a0.tmps.getD d undef := h.old d (fun j oj hj hl => hd j oj hj (by
      simp only [Array.getD_eq_getD_getElem?, Array.getElem?_setIfInBounds] at hl ⊢
      by_cases e : i = j
      · subst e
        rw [if_pos rfl, h.len, if_pos hlt]
        rfl
      · rw [if_neg e]; exact hl))
    cases hdi : oi.dst with
    | none => exact h1
    | some d' =>
      rw [getD_put, if_neg, h1]
      rintro ⟨rfl, _⟩
      refine hd i oi hoi ?_ hdi
      simp only [Array.getD_eq_getD_getElem?, Array.getElem?_setIfInBounds]
      rw [if_pos trivial, h.len, if_pos hlt]
      rfl

theorem any_gen (kills : List (Nat × Nat)) {a0 : Act} {R : Nat → Value → World → Prop} {Ext : Nat → World → World → Prop} {E : (Nat → Bool) → World → Prop} (ht : topoB ops = true) (hs : slotsB ops a0.tmps.size = true)
    (hxr : ∀ i W, Ext i W W) (hR : ∀ i j v W W', i ≠ j → kills.contains (i, j) = false → Region.reachB .any ops i ops.size j = false → Ext i W W' → R j v W → R j v W')
    (hstep : ∀ (i : Nat) (oi : Oper), ops[i]? = some oi → ∀ (a : Act) (W : World) (m : Nat → Bool), E m W → m i = false → (∀ j, (oi.after.any fun e => Region.binds .any e && e.on == j) = true → m j = true) →
      (∀ (j : Nat) (oj : Oper) (d : Tmp), ops[j]? = some oj → oj.dst = some d → (oi.after.any fun e => Region.binds .any e && e.on == j) = true → (kills.all fun p => p.2 != j || p.1 == i) = true → R j (a.tmps.getD d undef) W) →
      (∀ d : Nat, oldB ops i d = true → a.tmps.getD d undef = a0.tmps.getD d undef) → Ob2 P ops Q Ext R i oi a W (E (mark m i)))
    (hend : ∀ (a : Act) (W : World) (m : Nat → Bool), E m W → (∀ j, j < ops.size → m j = true) → a.tmps.size = a0.tmps.size → a.defers = a0.defers → (∀ (j : Nat) (oj : Oper) (d : Tmp), ops[j]? = some oj → oj.dst = some d → (kills.all fun p => p.2 != j) = true → R j (a.tmps.getD d undef) W) →
      (∀ d : Nat, freeB ops d = true → a.tmps.getD d undef = a0.tmps.getD d undef) → (∀ (j : Nat) (oj : Oper), ops[j]? = some oj → oj.dst = none → (kills.all fun p => p.2 != j) = true → ∃ v, R j v W) → Q .normal a W) :
    ∀ (fuel : Nat) (l : Array Bool) (a : Act) (W : World), missing ops.size l ≤ fuel → E (fun j => l.getD j false) W → Held2 ops a0 kills R l a W → wpAny P .any ops Q fuel l a W := by
  have fin : ∀ (l : Array Bool) (a : Act) (W : World), E (fun j => l.getD j false) W → Held2 ops a0 kills R l a W → Region.ready .any ops l = [] → Q .normal a W := by
    intro l a W hE hH hr
    have hall := ready_nil ht hH.len hr
    refine hend a W _ hE (fun j hj => hall j hj) hH.size hH.defers (fun j oj d hj hd hk => hH.got j oj d hj hd (hall j (Array.getElem?_eq_some_iff.1 hj).1) (fun i hi => absurd hi (by have := List.all_eq_true.1 hk; simp only [List.contains_eq_mem, decide_eq_true_eq]; intro hm; have := this _ hm; simp at this))) (fun d hd => hH.old d (fun j oj hj _ he => ?_)) (fun j oj hj hd hk => hH.did j oj hj hd (hall j (Array.getElem?_eq_some_iff.1 hj).1) (fun i hi => absurd hi (by have := List.all_eq_true.1 hk; simp only [List.contains_eq_mem, decide_eq_true_eq]; intro hm; have := this _ hm; simp at this)))
    have := List.all_eq_true.1 hd oj (by obtain ⟨h1, h2⟩ := Array.getElem?_eq_some_iff.1 hj; rw [← h2]; simp)
    rw [he] at this
    simp at this
  intro fuel
  induction fuel with
  | zero =>
    intro l a W hm hE hH
    have hr : Region.ready .any ops l = [] := by
      rw [List.eq_nil_iff_forall_not_mem]
      intro i hi
      obtain ⟨hb, oi, hoi, _⟩ := mem_ready.1 hi
      have := missing_set (Array.getElem?_eq_some_iff.1 hoi).1 hH.len hb
      omega
    exact ⟨hr, fin l a W hE hH hr⟩
  | succ fuel ih =>
    intro l a W hm hE hH
    refine ⟨fin l a W hE hH, fun i hi => ?_⟩
    obtain ⟨hb, oi, hoi, hall⟩ := mem_ready.1 hi
    have hlt := (Array.getElem?_eq_some_iff.1 hoi).1
    have hmiss := missing_set hlt hH.len hb
    have hfalse : l.getD i false = false := by
      simp only [Array.getD_eq_getD_getElem?] at hb ⊢
      rw [Array.getElem?_eq_getElem (by have := hH.len; omega)] at hb ⊢
      exact hb
    have hpre : ∀ j, (oi.after.any fun e => Region.binds .any e && e.on == j) = true → l.getD j false = true := fun j hn => by
      rw [← Array.any_toList] at hn
      obtain ⟨e, he, hx⟩ := List.any_eq_true.1 hn
      have he := Array.mem_toList_iff.1 he
      simp only [Bool.and_eq_true, beq_iff_eq] at hx
      have := hall e he hx.1
      rwa [hx.2] at this
    have hmark : (fun j => (l.setIfInBounds i true).getD j false) = mark (fun j => l.getD j false) i := by
      funext j
      simp only [mark, Array.getD_eq_getD_getElem?, Array.getElem?_setIfInBounds]
      by_cases e : j = i
      · subst e
        rw [if_pos rfl, if_pos rfl, if_pos (by have := hH.len; omega)]; rfl
      · rw [if_neg e, if_neg (fun h => e h.symm)]
    have hob := hstep i oi hoi a W (fun j => l.getD j false) hE hfalse hpre (fun j oj d hj hd hn hkb => by
      rw [← Array.any_toList] at hn
      obtain ⟨e, he, hx⟩ := List.any_eq_true.1 hn
      have he := Array.mem_toList_iff.1 he
      simp only [Bool.and_eq_true, beq_iff_eq] at hx
      have := hall e he hx.1
      rw [hx.2] at this
      refine hH.got j oj d hj hd this (fun i' hk => ?_)
      have h1 := List.all_eq_true.1 hkb (i', j) (by simpa using hk)
      simp only [bne_self_eq_false, Bool.false_or, beq_iff_eq] at h1
      rw [h1]; exact hfalse) (fun d hd => hH.old d (fun j oj hj hl he => by
        have h1 := List.all_eq_true.1 hd j (List.mem_range.2 (Array.getElem?_eq_some_iff.1 hj).1)
        simp only [hj, he, bne_self_eq_false, Bool.false_or, Bool.or_eq_true, beq_iff_eq] at h1
        have hif : l.getD i false = false := by
          simp only [Array.getD_eq_getD_getElem?] at hb ⊢
          rw [Array.getElem?_eq_getElem (by have := hH.len; omega)] at hb ⊢
          exact hb
        rcases h1 with h1 | h1
        · subst h1
          rw [hif] at hl
          cases hl
        · have := Region.reach_listed hH.closed _ _ h1 hl
          rw [hif] at this
          cases this))
    unfold wpOp
    rw [hoi]
    unfold Ob2 at hob
    simp only
    split
    · rename_i hw
      rw [if_pos hw] at hob
      refine .inl (Oper.wp_mono ?_ hob)
      rintro a' W' ⟨v, rfl, hx, hv, hk⟩
      exact ih _ _ _ (by omega) (by rw [hmark]; exact hk) (hH.step hs hR hi hoi hx hv)
    · rename_i hw
      rw [if_neg hw] at hob
      exact ih _ _ _ (by omega) (by rw [hmark]; exact hob.2) (hH.step hs hR hi hoi (hxr i W) hob.1)

/-- THE LAW: a region that draws its order. -/
theorem region_gen (kills : List (Nat × Nat)) {id : Nat} {a0 : Act} {w : World} {R : Nat → Value → World → Prop} {Ext : Nat → World → World → Prop} (E : (Nat → Bool) → World → Prop) (hm : P.follows .mixedOrders = true) (ht : topoB ops = true) (hs : slotsB ops a0.tmps.size = true)
    (h0 : E (fun _ => false) w.drew) (hxr : ∀ i W, Ext i W W) (hR : ∀ i j v W W', i ≠ j → kills.contains (i, j) = false → Region.reachB .any ops i ops.size j = false → Ext i W W' → R j v W → R j v W')
    (hstep : ∀ (i : Nat) (oi : Oper), ops[i]? = some oi → ∀ (a : Act) (W : World) (m : Nat → Bool), E m W → m i = false → (∀ j, (oi.after.any fun e => Region.binds .any e && e.on == j) = true → m j = true) →
      (∀ (j : Nat) (oj : Oper) (d : Tmp), ops[j]? = some oj → oj.dst = some d → (oi.after.any fun e => Region.binds .any e && e.on == j) = true → (kills.all fun p => p.2 != j || p.1 == i) = true → R j (a.tmps.getD d undef) W) →
      (∀ d : Nat, oldB ops i d = true → a.tmps.getD d undef = a0.tmps.getD d undef) → Ob2 P ops Q Ext R i oi a W (E (mark m i)))
    (hend : ∀ (a : Act) (W : World) (m : Nat → Bool), E m W → (∀ j, j < ops.size → m j = true) → a.tmps.size = a0.tmps.size → a.defers = a0.defers → (∀ (j : Nat) (oj : Oper) (d : Tmp), ops[j]? = some oj → oj.dst = some d → (kills.all fun p => p.2 != j) = true → R j (a.tmps.getD d undef) W) →
      (∀ d : Nat, freeB ops d = true → a.tmps.getD d undef = a0.tmps.getD d undef) → (∀ (j : Nat) (oj : Oper), ops[j]? = some oj → oj.dst = none → (kills.all fun p => p.2 != j) = true → ∃ v, R j v W) → Q .normal a W) :
    (Code.region id ops true).wp P Q a0 w := by
  refine wp_region_any hm ?_
  refine any_gen kills ht hs hxr hR hstep hend ops.size _ a0 _ ?_ (by
    have e : (fun j => (Array.replicate ops.size false).getD j false) = fun _ => false := by
      funext j
      simp only [Array.getD_eq_getD_getElem?, Array.getElem?_replicate]
      split <;> rfl
    rw [e]
    exact h0) ⟨rfl, rfl, by simp, ?_, ?_, ?_, fun _ _ => rfl⟩
  · unfold missing
    refine Nat.le_trans (List.countP_le_length) (by simp)
  · intro j oj hj hl
    simp only [Array.getD_eq_getD_getElem?, Array.getElem?_replicate] at hl
    split at hl <;> cases hl
  · intro j oj d hj hd hl
    simp only [Array.getD_eq_getD_getElem?, Array.getElem?_replicate] at hl
    split at hl <;> cases hl
  · intro j oj hj hd hl
    simp only [Array.getD_eq_getD_getElem?, Array.getElem?_replicate] at hl
    split at hl <;> cases hl

end
section
variable {P : Program} {ops : Array Oper} {Q : Exit → Act → World → Prop} {R : Nat → Value → World → Prop} {Ext : Nat → World → World → Prop} {i : Nat} {o : Oper} {a : Act} {W : World} {G : World → Prop}
theorem ob2_plain (h : o.guard = none) (hw : o.wp P a W (fun a' W' => ∃ v, a' = a.put o.dst v ∧ Ext i W W' ∧ R i v W' ∧ G W') Q) : Ob2 P ops Q Ext R i o a W G := by
  unfold Ob2
  simp only [Region.wanted, h, if_true]
  exact hw
theorem ob2_yes {g : Nat} {og : Oper} {d : Tmp} {b : Bool} (hg : o.guard = some (g, b)) (hog : ops[g]? = some og) (hd : og.dst = some d) (hv : a.eval (.tmp d) = .bool b)
    (h : o.wp P a W (fun a' W' => ∃ v, a' = a.put o.dst v ∧ Ext i W W' ∧ R i v W' ∧ G W') Q) : Ob2 P ops Q Ext R i o a W G := by
  unfold Ob2
  rw [if_pos (by simp only [Region.wanted, hg]; rw [yielded_of hog hd hv]; simp)]
  exact h
theorem ob2_no {g : Nat} {og : Oper} {d : Tmp} {b b' : Bool} (hg : o.guard = some (g, b)) (hog : ops[g]? = some og) (hd : og.dst = some d) (hv : a.eval (.tmp d) = .bool b') (hb : b' ≠ b)
    (h : R i undef W) (h2 : G W) : Ob2 P ops Q Ext R i o a W G := by
  unfold Ob2
  rw [if_neg]
  · exact ⟨h, h2⟩
  · simp only [Region.wanted, hg]
    rw [yielded_of hog hd hv]
    simpa using hb
theorem ob2_off {g : Nat} {og : Oper} {d : Tmp} {b : Bool} (hg : o.guard = some (g, b)) (hog : ops[g]? = some og) (hd : og.dst = some d) (hv : a.eval (.tmp d) = undef)
    (h : R i undef W) (h2 : G W) : Ob2 P ops Q Ext R i o a W G := by
  unfold Ob2
  rw [if_neg]
  · exact ⟨h, h2⟩
  · simp only [Region.wanted, hg]
    rw [yielded_undef hog hd hv]
    simp
end
end Go.Proofs.Ytlfcgicobhalmaa.Reg
