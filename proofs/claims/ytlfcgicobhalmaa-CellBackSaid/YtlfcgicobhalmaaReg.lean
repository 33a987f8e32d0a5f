/- A region that draws its order, each operation looked at once: what each one's slot holds is told by a relation that is kept while the world goes on; the order doesn't matter then. No function of the program is named. -/
import Derived.Orders
import Derived.OrdersHeld
import Derived.Below
import Derived.WalkKit
import Derived.Test.YtlfcgicobhalmaaWLast
namespace Go.Proofs.Ytlfcgicobhalmaa.Reg
open Go Go.RowKit Go.Proofs.YtlfcgicobhalmaaW.PrintLast
set_option linter.unusedVariables false
set_option linter.unusedSimpArgs false

/-- Each edge leads back; the slots are apart, and there. -/
def topoB (ops : Array Oper) : Bool := (List.range ops.size).all fun i => match ops[i]? with
  | some o => o.after.all fun e => !Region.binds .any e || decide (e.on < i)
  | none => true
def slotsB (ops : Array Oper) (n : Nat) : Bool :=
  ((List.range ops.size).all fun i => match ops[i]? with
    | some o => match o.dst with
      | some d => decide (d < n) && (List.range ops.size).all fun j => match ops[j]? with
        | some o' => o'.dst != some d || i == j
        | none => true
      | none => true
    | none => true)
/-- A slot that none of the operations that come up ahead of number i writes. -/
def oldB (ops : Array Oper) (i : Nat) (d : Nat) : Bool := (List.range ops.size).all fun k => match ops[k]? with
  | some o => o.dst != some d || k == i || Region.reachB .any ops i ops.size k
  | none => true
/-- A slot that no operation writes. -/
def freeB (ops : Array Oper) (d : Nat) : Bool := ops.toList.all fun o => o.dst != some d

section
variable {P : Program} {ops : Array Oper} {Q : Exit → Act → World → Prop}

structure Held (ops : Array Oper) (a0 : Act) (R : Nat → Value → World → Prop) (l : Array Bool) (a : Act) (W : World) : Prop where
  size : a.tmps.size = a0.tmps.size
  defers : a.defers = a0.defers
  len : l.size = ops.size
  closed : ListedClosed .any ops l
  got : ∀ (j : Nat) (oj : Oper) (d : Tmp), ops[j]? = some oj → oj.dst = some d → l.getD j false = true → R j (a.tmps.getD d undef) W
  did : ∀ (j : Nat) (oj : Oper), ops[j]? = some oj → oj.dst = none → l.getD j false = true → ∃ v, R j v W
  old : ∀ d : Nat, (∀ (j : Nat) (oj : Oper), ops[j]? = some oj → l.getD j false = true → oj.dst ≠ some d) → a.tmps.getD d undef = a0.tmps.getD d undef

/-- What number i's step owes. -/
def Ob (P : Program) (ops : Array Oper) (Q : Exit → Act → World → Prop) (Ext : World → World → Prop) (R : Nat → Value → World → Prop) (i : Nat) (o : Oper) (a : Act) (W : World) : Prop :=
  if Region.wanted o (yielded ops a.tmps) then o.wp P a W (fun a' W' => ∃ v, a' = a.put o.dst v ∧ Ext W W' ∧ R i v W') Q else R i undef W

theorem slots_lt {n : Nat} (h : slotsB ops n = true) {i : Nat} {o : Oper} {d : Tmp} (hi : ops[i]? = some o) (hd : o.dst = some d) : d < n := by
  have hlt : i < ops.size := (Array.getElem?_eq_some_iff.1 hi).1
  have h1 := List.all_eq_true.1 h i (List.mem_range.2 hlt)
  simp only [hi, hd, Bool.and_eq_true, decide_eq_true_eq] at h1
  exact h1.1
theorem slots_inj {n : Nat} (h : slotsB ops n = true) {i j : Nat} {o o' : Oper} {d : Tmp} (hi : ops[i]? = some o) (hd : o.dst = some d) (hj : ops[j]? = some o') (hd' : o'.dst = some d) : i = j := by
  have hlt : i < ops.size := (Array.getElem?_eq_some_iff.1 hi).1
  have hlt' : j < ops.size := (Array.getElem?_eq_some_iff.1 hj).1
  have h1 := List.all_eq_true.1 h i (List.mem_range.2 hlt)
  simp only [hi, hd, Bool.and_eq_true, decide_eq_true_eq] at h1
  have h2 := List.all_eq_true.1 h1.2 j (List.mem_range.2 hlt')
  simp only [hj, hd', bne_self_eq_false, Bool.false_or, beq_iff_eq] at h2
  exact h2
theorem getD_put {a : Act} {d d' : Tmp} {v : Value} : (a.put (some d) v).tmps.getD d' undef = if d' = d ∧ d < a.tmps.size then v else a.tmps.getD d' undef := by
  simp only [Act.put, Array.getD_eq_getD_getElem?, Array.getElem?_setIfInBounds]
  by_cases h : d = d'
  · subst h
    by_cases hs : d < a.tmps.size
    · simp [hs]
    · simp [hs]
  · rw [if_neg h, if_neg (fun hh => h hh.1.symm)]

/-- One step keeps what is held. -/
theorem Held.step {a0 a : Act} {R : Nat → Value → World → Prop} {Ext : World → World → Prop} {l : Array Bool} {W W' : World} {i : Nat} {oi : Oper} {v : Value}
    (hs : slotsB ops a0.tmps.size = true) (hR : ∀ j v W W', Ext W W' → R j v W → R j v W') (h : Held ops a0 R l a W) (hi : i ∈ Region.ready .any ops l) (hoi : ops[i]? = some oi) (hE : Ext W W') (hv : R i v W') :
    Held ops a0 R (l.setIfInBounds i true) (a.put oi.dst v) W' := by
  have hlt : i < ops.size := (Array.getElem?_eq_some_iff.1 hoi).1
  have hset : ∀ j, (l.setIfInBounds i true).getD j false = true → j = i ∨ l.getD j false = true := by
    intro j hj
    simp only [Array.getD_eq_getD_getElem?, Array.getElem?_setIfInBounds] at hj ⊢
    by_cases e : i = j
    · exact .inl e.symm
    · rw [if_neg e] at hj; exact .inr hj
  refine ⟨?_, ?_, by simp [h.len], h.closed.set hi, ?_, ?_, ?_⟩
  · cases oi.dst <;> simp [Act.put, h.size]
  · cases oi.dst <;> simp [Act.put, h.defers]
  · intro j oj d hj hd hl
    by_cases e : j = i
    · subst e
      obtain rfl : oj = oi := Option.some.inj (hj.symm.trans hoi)
      rw [hd, getD_put, if_pos ⟨rfl, by rw [h.size]; exact slots_lt hs hj hd⟩]
      exact hv
    · have hlj : l.getD j false = true := (hset j hl).resolve_left e
      have hold := hR j _ _ _ hE (h.got j oj d hj hd hlj)
      cases hdi : oi.dst with
      | none => exact hold
      | some d' =>
        rw [getD_put, if_neg (fun hh => e (slots_inj hs hj hd hoi (by rw [hdi, hh.1])))]
        exact hold
  · intro j oj hj hd hl
    by_cases e : j = i
    · subst e
      exact ⟨v, hv⟩
    · obtain ⟨u, hu⟩ := h.did j oj hj hd ((hset j hl).resolve_left e)
      exact ⟨u, hR j _ _ _ hE hu⟩
  · intro d hd
    have h1 : a.tmps.getD d undef = a0.tmps.getD d undef := h.old d (fun j oj hj hl => hd j oj hj (by
      simp only [Array.getD_eq_getD_getElem?, Array.getElem?_setIfInBounds] at hl ⊢
      by_cases e : i = j
      · subst e
        rw [if_pos rfl, h.len, if_pos hlt]
        rfl
      · rw [if_neg e]; exact hl))
    cases hdi : oi.dst with
    | none => exact h1
    | some d' =>
      rw [getD_put, if_neg, h1]
      rintro ⟨rfl, _⟩
      refine hd i oi hoi ?_ hdi
      simp only [Array.getD_eq_getD_getElem?, Array.getElem?_setIfInBounds]
      rw [if_pos trivial, h.len, if_pos hlt]
      rfl

theorem ready_nil (ht : topoB ops = true) {l : Array Bool} (hlen : l.size = ops.size) (h : Region.ready .any ops l = []) : ∀ i, i < ops.size → l.getD i false = true := by
  intro i
  induction i using Nat.strongRecOn with
  | ind i ih =>
    intro hi
    rcases hb : l.getD i false with _ | _
    · exfalso
      have hoi : ops[i]? = some ops[i] := Array.getElem?_eq_getElem hi
      have : i ∈ Region.ready .any ops l := by
        refine mem_ready.2 ⟨?_, ops[i], hoi, ?_⟩
        · simp only [Array.getD_eq_getD_getElem?] at hb ⊢
          rw [Array.getElem?_eq_getElem (by omega)] at hb ⊢
          exact hb
        · intro e he hbi
          have h1 := List.all_eq_true.1 ht i (List.mem_range.2 hi)
          simp only [hoi] at h1
          have h2 := Array.all_eq_true_iff_forall_mem.1 h1 e he
          rw [hbi, Bool.not_true, Bool.false_or, decide_eq_true_eq] at h2
          exact ih e.on h2 (by omega)
      rw [h] at this
      cases this
    · rfl
def missing (n : Nat) (l : Array Bool) : Nat := (List.range n).countP fun j => !l.getD j false
theorem missing_set {n i : Nat} {l : Array Bool} (hi : i < n) (hl : l.size = n) (hb : l.getD i true = false) : missing n (l.setIfInBounds i true) + 1 ≤ missing n l := by
  unfold missing
  have hsplit : List.range n = List.range i ++ i :: (List.range (n - i - 1)).map (i + 1 + ·) := by
    have h1 := @List.range_add i (n - i)
    rw [show i + (n - i) = n by omega] at h1
    have h2 : n - i = (n - i - 1) + 1 := by omega
    rw [h1]
    congr 1
    rw [h2, List.range_succ_eq_map, List.map_cons, List.map_map]
    simp only [Nat.add_zero, List.cons.injEq, true_and, Nat.add_sub_cancel]
    apply List.map_congr_left
    intro x _
    simp only [Function.comp]
    omega
  have hset : ∀ j, j ≠ i → (l.setIfInBounds i true).getD j false = l.getD j false := by
    intro j hj
    simp only [Array.getD_eq_getD_getElem?, Array.getElem?_setIfInBounds]
    rw [if_neg (fun e => hj e.symm)]
  have hii : (l.setIfInBounds i true).getD i false = true := by
    simp only [Array.getD_eq_getD_getElem?, Array.getElem?_setIfInBounds]
    rw [if_pos trivial, if_pos (by omega)]; rfl
  have hif : l.getD i false = false := by
    simp only [Array.getD_eq_getD_getElem?] at hb ⊢
    rw [Array.getElem?_eq_getElem (by omega)] at hb ⊢
    exact hb
  rw [hsplit, List.countP_append, List.countP_append, List.countP_cons, List.countP_cons, hii, hif]
  have c1 : List.countP (fun j => !(l.setIfInBounds i true).getD j false) (List.range i) = List.countP (fun j => !l.getD j false) (List.range i) := by
    apply List.countP_congr
    intro x hx
    rw [hset x (by have := List.mem_range.1 hx; omega)]
  have c2 : List.countP (fun j => !(l.setIfInBounds i true).getD j false) ((List.range (n - i - 1)).map (i + 1 + ·)) = List.countP (fun j => !l.getD j false) ((List.range (n - i - 1)).map (i + 1 + ·)) := by
    apply List.countP_congr
    intro x hx
    obtain ⟨y, _, rfl⟩ := List.mem_map.1 hx
    rw [hset _ (by omega)]
  rw [c1, c2]
  simp
  omega

theorem any_mono {a0 : Act} {R : Nat → Value → World → Prop} {Ext : World → World → Prop} {E : World → Prop} (ht : topoB ops = true) (hs : slotsB ops a0.tmps.size = true)
    (hEx : ∀ W W', E W → Ext W W' → E W') (hxr : ∀ W, Ext W W) (hR : ∀ j v W W', Ext W W' → R j v W → R j v W')
    (hstep : ∀ (i : Nat) (oi : Oper), ops[i]? = some oi → ∀ (a : Act) (W : World), E W →
      (∀ (j : Nat) (oj : Oper) (d : Tmp), ops[j]? = some oj → oj.dst = some d → (oi.after.any fun e => Region.binds .any e && e.on == j) = true → R j (a.tmps.getD d undef) W) →
      (∀ d : Nat, oldB ops i d = true → a.tmps.getD d undef = a0.tmps.getD d undef) → Ob P ops Q Ext R i oi a W)
    (hend : ∀ (a : Act) (W : World), E W → a.tmps.size = a0.tmps.size → a.defers = a0.defers → (∀ (j : Nat) (oj : Oper) (d : Tmp), ops[j]? = some oj → oj.dst = some d → R j (a.tmps.getD d undef) W) →
      (∀ d : Nat, freeB ops d = true → a.tmps.getD d undef = a0.tmps.getD d undef) → (∀ (j : Nat) (oj : Oper), ops[j]? = some oj → oj.dst = none → ∃ v, R j v W) → Q .normal a W) :
    ∀ (fuel : Nat) (l : Array Bool) (a : Act) (W : World), missing ops.size l ≤ fuel → E W → Held ops a0 R l a W → wpAny P .any ops Q fuel l a W := by
  have fin : ∀ (l : Array Bool) (a : Act) (W : World), E W → Held ops a0 R l a W → Region.ready .any ops l = [] → Q .normal a W := by
    intro l a W hE hH hr
    have hall := ready_nil ht hH.len hr
    refine hend a W hE hH.size hH.defers (fun j oj d hj hd => hH.got j oj d hj hd (hall j (Array.getElem?_eq_some_iff.1 hj).1)) (fun d hd => hH.old d (fun j oj hj _ he => ?_)) (fun j oj hj hd => hH.did j oj hj hd (hall j (Array.getElem?_eq_some_iff.1 hj).1))
    have := List.all_eq_true.1 hd oj (by obtain ⟨h1, h2⟩ := Array.getElem?_eq_some_iff.1 hj; rw [← h2]; simp)
    rw [he] at this
    simp at this
  intro fuel
  induction fuel with
  | zero =>
    intro l a W hm hE hH
    have hr : Region.ready .any ops l = [] := by
      rw [List.eq_nil_iff_forall_not_mem]
      intro i hi
      obtain ⟨hb, oi, hoi, _⟩ := mem_ready.1 hi
      have := missing_set (Array.getElem?_eq_some_iff.1 hoi).1 hH.len hb
      omega
    exact ⟨hr, fin l a W hE hH hr⟩
  | succ fuel ih =>
    intro l a W hm hE hH
    refine ⟨fin l a W hE hH, fun i hi => ?_⟩
    obtain ⟨hb, oi, hoi, hall⟩ := mem_ready.1 hi
    have hlt := (Array.getElem?_eq_some_iff.1 hoi).1
    have hmiss := missing_set hlt hH.len hb
    have hob := hstep i oi hoi a W hE (fun j oj d hj hd hn => by
      rw [← Array.any_toList] at hn
      obtain ⟨e, he, hx⟩ := List.any_eq_true.1 hn
      have he := Array.mem_toList_iff.1 he
      simp only [Bool.and_eq_true, beq_iff_eq] at hx
      have := hall e he hx.1
      rw [hx.2] at this
      exact hH.got j oj d hj hd this) (fun d hd => hH.old d (fun j oj hj hl he => by
        have h1 := List.all_eq_true.1 hd j (List.mem_range.2 (Array.getElem?_eq_some_iff.1 hj).1)
        simp only [hj, he, bne_self_eq_false, Bool.false_or, Bool.or_eq_true, beq_iff_eq] at h1
        have hif : l.getD i false = false := by
          simp only [Array.getD_eq_getD_getElem?] at hb ⊢
          rw [Array.getElem?_eq_getElem (by have := hH.len; omega)] at hb ⊢
          exact hb
        rcases h1 with h1 | h1
        · subst h1
          rw [hif] at hl
          cases hl
        · have := Region.reach_listed hH.closed _ _ h1 hl
          rw [hif] at this
          cases this))
    unfold wpOp
    rw [hoi]
    unfold Ob at hob
    simp only
    split
    · rename_i hw
      rw [if_pos hw] at hob
      refine .inl (Oper.wp_mono ?_ hob)
      rintro a' W' ⟨v, rfl, hx, hv⟩
      exact ih _ _ _ (by omega) (hEx _ _ hE hx) (hH.step hs hR hi hoi hx hv)
    · rename_i hw
      rw [if_neg hw] at hob
      exact ih _ _ _ (by omega) hE (hH.step hs hR hi hoi (hxr W) hob)

/-- THE LAW: a region that draws its order. -/
theorem region_mono {id : Nat} {a0 : Act} {w : World} {R : Nat → Value → World → Prop} {Ext : World → World → Prop} (E : World → Prop) (hm : P.follows .mixedOrders = true) (ht : topoB ops = true) (hs : slotsB ops a0.tmps.size = true)
    (h0 : E w.drew) (hEx : ∀ W W', E W → Ext W W' → E W') (hxr : ∀ W, Ext W W) (hR : ∀ j v W W', Ext W W' → R j v W → R j v W')
    (hstep : ∀ (i : Nat) (oi : Oper), ops[i]? = some oi → ∀ (a : Act) (W : World), E W →
      (∀ (j : Nat) (oj : Oper) (d : Tmp), ops[j]? = some oj → oj.dst = some d → (oi.after.any fun e => Region.binds .any e && e.on == j) = true → R j (a.tmps.getD d undef) W) →
      (∀ d : Nat, oldB ops i d = true → a.tmps.getD d undef = a0.tmps.getD d undef) → Ob P ops Q Ext R i oi a W)
    (hend : ∀ (a : Act) (W : World), E W → a.tmps.size = a0.tmps.size → a.defers = a0.defers → (∀ (j : Nat) (oj : Oper) (d : Tmp), ops[j]? = some oj → oj.dst = some d → R j (a.tmps.getD d undef) W) →
      (∀ d : Nat, freeB ops d = true → a.tmps.getD d undef = a0.tmps.getD d undef) → (∀ (j : Nat) (oj : Oper), ops[j]? = some oj → oj.dst = none → ∃ v, R j v W) → Q .normal a W) :
    (Code.region id ops true).wp P Q a0 w := by
  refine wp_region_any hm ?_
  refine any_mono ht hs hEx hxr hR hstep hend ops.size _ a0 _ ?_ h0 ⟨rfl, rfl, by simp, ?_, ?_, ?_, fun _ _ => rfl⟩
  · unfold missing
    refine Nat.le_trans (List.countP_le_length) (by simp)
  · intro j oj hj hl
    simp only [Array.getD_eq_getD_getElem?, Array.getElem?_replicate] at hl
    split at hl <;> cases hl
  · intro j oj d hj hd hl
    simp only [Array.getD_eq_getD_getElem?, Array.getElem?_replicate] at hl
    split at hl <;> cases hl
  · intro j oj hj hd hl
    simp only [Array.getD_eq_getD_getElem?, Array.getElem?_replicate] at hl
    split at hl <;> cases hl

/-! ### one operation -/
theorem eval_const (a : Act) (v : Value) : a.eval (.const v) = v := rfl
theorem eval_tmp (a : Act) (t : Tmp) : a.eval (.tmp t) = a.tmps.getD t undef := rfl
section
variable {Ext : World → World → Prop} {R : Nat → Value → World → Prop} {i : Nat} {o : Oper} {a : Act} {W : World}
theorem ob_plain (hg : o.guard = none) (h : o.wp P a W (fun a' W' => ∃ v, a' = a.put o.dst v ∧ Ext W W' ∧ R i v W') Q) : Ob P ops Q Ext R i o a W := by
  unfold Ob
  rw [if_pos (by simp [Region.wanted, hg])]
  exact h
theorem yielded_of {g : Nat} {og : Oper} {d : Tmp} {b : Bool} (hog : ops[g]? = some og) (hd : og.dst = some d) (hv : a.eval (.tmp d) = .bool b) : yielded ops a.tmps g = some b := by
  unfold yielded
  rw [hog]
  simp only [Option.bind_some, hd]
  simp only [Act.eval, Array.getD_eq_getD_getElem?] at hv
  cases h : a.tmps[d]? with
  | none => rw [h] at hv; simp [undef] at hv
  | some x => rw [h] at hv; simp at hv; subst hv; rfl
theorem yielded_undef {g : Nat} {og : Oper} {d : Tmp} (hog : ops[g]? = some og) (hd : og.dst = some d) (hv : a.eval (.tmp d) = undef) : yielded ops a.tmps g = none := by
  unfold yielded
  rw [hog]
  simp only [Option.bind_some, hd]
  simp only [Act.eval, Array.getD_eq_getD_getElem?] at hv
  cases h : a.tmps[d]? with
  | none => rfl
  | some x => rw [h] at hv; simp at hv; subst hv; rfl
theorem ob_yes {g : Nat} {og : Oper} {d : Tmp} {b : Bool} (hg : o.guard = some (g, b)) (hog : ops[g]? = some og) (hd : og.dst = some d) (hv : a.eval (.tmp d) = .bool b)
    (h : o.wp P a W (fun a' W' => ∃ v, a' = a.put o.dst v ∧ Ext W W' ∧ R i v W') Q) : Ob P ops Q Ext R i o a W := by
  unfold Ob
  rw [if_pos (by simp only [Region.wanted, hg]; rw [yielded_of hog hd hv]; simp)]
  exact h
theorem ob_no {g : Nat} {og : Oper} {d : Tmp} {b b' : Bool} (hg : o.guard = some (g, b)) (hog : ops[g]? = some og) (hd : og.dst = some d) (hv : a.eval (.tmp d) = .bool b') (hb : b' ≠ b)
    (h : R i undef W) : Ob P ops Q Ext R i o a W := by
  unfold Ob
  rw [if_neg]
  · exact h
  · simp only [Region.wanted, hg]
    rw [yielded_of hog hd hv]
    simpa using hb
theorem ob_off {g : Nat} {og : Oper} {d : Tmp} {b : Bool} (hg : o.guard = some (g, b)) (hog : ops[g]? = some og) (hd : og.dst = some d) (hv : a.eval (.tmp d) = undef)
    (h : R i undef W) : Ob P ops Q Ext R i o a W := by
  unfold Ob
  rw [if_neg]
  · exact h
  · simp only [Region.wanted, hg]
    rw [yielded_undef hog hd hv]
    simp
theorem wp_val {K : Act → World → Prop} {v : Value} {W' : World} (hrun : (execOp a.eval o).run P W = .ok (.value v) W') (h : K (a.put o.dst v) W') : o.wp P a W K Q := by
  unfold Oper.wp
  rw [hrun]
  exact h
theorem wp_skip {K : Act → World → Prop} {W' : World} (hrun : (execOp a.eval o).run P W = .ok .skip W') (h : K (a.put o.dst undef) W') : o.wp P a W K Q := by
  unfold Oper.wp
  rw [hrun]
  exact h
theorem wp_call {K : Act → World → Prop} {f : FuncId} {args : Array Value} (hrun : (execOp a.eval o).run P W = .ok (.enter f args) W)
    (h : Calls P f args W fun e W' => ∃ v, e = .returned v ∧ K (a.put o.dst v) W') : o.wp P a W K Q := by
  unfold Oper.wp
  rw [hrun]
  refine Calls.mono h ?_
  rintro e W' ⟨v, rfl, hk⟩
  exact hk
end

theorem foldl_sets_size (vs : Nat → Value) (ds : List Nat) : ∀ t : Array Value, (ds.foldl (fun t d => t.setIfInBounds d (vs d)) t).size = t.size := by
  induction ds with
  | nil => intro t; rfl
  | cons d ds ih => intro t; rw [List.foldl_cons, ih]; simp
theorem foldl_sets_get (vs : Nat → Value) (ds : List Nat) : ∀ (t : Array Value) (i : Nat), (ds.foldl (fun t d => t.setIfInBounds d (vs d)) t)[i]? = if i ∈ ds ∧ i < t.size then some (vs i) else t[i]? := by
  induction ds with
  | nil => intro t i; simp
  | cons d ds ih =>
    intro t i
    rw [List.foldl_cons, ih]
    by_cases h1 : i ∈ ds
    · by_cases h2 : i < t.size
      · rw [if_pos ⟨h1, by simpa using h2⟩, if_pos ⟨by simp [h1], h2⟩]
      · rw [if_neg (by simp; omega), if_neg (by omega), Array.getElem?_setIfInBounds]
        split
        · rw [if_neg (by omega), Array.getElem?_eq_none (by omega)]
        · rfl
    · rw [if_neg (fun h => h1 h.1), Array.getElem?_setIfInBounds]
      by_cases h3 : d = i
      · subst h3
        by_cases h2 : d < t.size
        · rw [if_pos rfl, if_pos h2, if_pos ⟨by simp, h2⟩]
        · rw [if_pos rfl, if_neg h2, if_neg (fun h => h2 h.2), Array.getElem?_eq_none (by omega)]
      · rw [if_neg h3, if_neg (fun h => by simp only [List.mem_cons] at h; exact h.1.elim (fun h4 => h3 h4.symm) h1)]
/-- Behind the region: the frame, written out again. -/
theorem act_of {a a0 : Act} (ds : List Nat) (hs : a.tmps.size = a0.tmps.size) (hd : a.defers = a0.defers) (same : ∀ d : Nat, freeB ops d = true → a.tmps.getD d undef = a0.tmps.getD d undef)
    (hall : ((List.range a0.tmps.size).all fun d => freeB ops d || ds.contains d) = true) : a = { tmps := ds.foldl (fun t d => t.setIfInBounds d (a.tmps.getD d undef)) a0.tmps, defers := a0.defers } := by
  obtain ⟨t, df⟩ := a
  simp only at hs hd
  subst hd
  congr 1
  apply Array.ext_getElem?
  intro i
  rw [foldl_sets_get (fun d => t.getD d undef)]
  by_cases hi : i < a0.tmps.size
  · have h1 := List.all_eq_true.1 hall i (List.mem_range.2 hi)
    simp only [Bool.or_eq_true] at h1
    by_cases h2 : i ∈ ds
    · rw [if_pos ⟨h2, hi⟩, Array.getD_eq_getD_getElem?, Array.getElem?_eq_getElem (show i < t.size by omega)]
      rfl
    · rw [if_neg (fun h => h2 h.1)]
      have hf := same i (h1.resolve_right (by simpa using h2))
      simp only [Array.getD_eq_getD_getElem?] at hf
      rw [Array.getElem?_eq_getElem (show i < t.size by omega), Array.getElem?_eq_getElem hi] at hf ⊢
      simpa using hf
  · rw [if_neg (fun h => hi h.2), Array.getElem?_eq_none (by omega), Array.getElem?_eq_none (by omega)]
end
end Go.Proofs.Ytlfcgicobhalmaa.Reg
