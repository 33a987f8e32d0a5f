/- Plain facts on R-trees' nodes (layer 18). -/
import Derived.Test.YtljcingmjemohaaKM2
namespace Go.Proofs.Ytljcingmjemohaa.MNd
set_option linter.unusedVariables false
set_option linter.unusedSimpArgs false
open Go.Proofs.Ytljcingmjemohaa
open Go.Proofs.Ytljcingmjemohaa.MBox (Bx noneB has)
open Go.Proofs.Ytljcingmjemohaa.MChoose (En En0)
def ids (l : List En) : List Int := l.map (fun e => e.id)
/-- Are the first k entries fine? -/
def fineTo (l : List En) : Nat → Bool
  | 0 => true
  | k + 1 => fineTo l k && (has (l.getD k En0).bx && !(ids (l.take k)).contains (l.getD k En0).id)
def goodN (lv : Int) (l : List En) : Bool := fineTo l l.length && (decide (0 ≤ lv) && (decide (lv ≤ 20) && decide (l.length ≤ 8)))
theorem fineTo_mono {l : List En} {k : Nat} (h : fineTo l k = false) : ∀ m, fineTo l (k + m) = false
  | 0 => h
  | m + 1 => by rw [Nat.add_succ, fineTo, fineTo_mono h m, Bool.false_and]
theorem not_good {lv : Int} {l : List En} {k : Nat} (hk : k ≤ l.length) (h : fineTo l k = false) : goodN lv l = false := by
  obtain ⟨m, hm⟩ : ∃ m, l.length = k + m := ⟨l.length - k, by omega⟩
  unfold goodN
  rw [hm, fineTo_mono h m, Bool.false_and]
theorem ids_take {l : List En} {k : Nat} (h : k < l.length) : ids (l.take (k + 1)) = ids (l.take k) ++ [l[k].id] := by
  unfold ids
  rw [List.take_succ_eq_append_getElem h, List.map_append]
  rfl
theorem getD_en {l : List En} {k : Nat} (h : k < l.length) : l.getD k En0 = l[k] := by rw [List.getD_eq_getElem?_getD, List.getElem?_eq_getElem h]; rfl
/-- The box of entries. -/
def bnd (l : List En) : Bx := l.foldl (fun b e => MBox.union b e.bx) noneB
theorem bnd_take {l : List En} {k : Nat} (h : k < l.length) : bnd (l.take (k + 1)) = MBox.union (bnd (l.take k)) l[k].bx := by
  unfold bnd
  rw [List.take_succ_eq_append_getElem h, List.foldl_append]
  rfl
/-- Where an Id stands. -/
def findN (l : List En) (id : Int) : Int :=
  match l with
  | [] => -1
  | e :: l => if e.id = id then 0 else if findN l id < 0 then -1 else findN l id + 1
theorem findN_at : ∀ {l : List En} {id : Int} {k : Nat} (hk : k < l.length), (∀ i (h : i < k), (l[i]'(by omega)).id ≠ id) → l[k].id = id → findN l id = k
  | e :: l, id, 0, hk, h, hx => by
    have hx' : e.id = id := hx
    unfold findN; rw [if_pos hx']; rfl
  | e :: l, id, k + 1, hk, h, hx => by
    have h0 : ¬ e.id = id := h 0 (by omega)
    have ih := findN_at (l := l) (id := id) (k := k) (by simpa using hk) (fun i hi => h (i + 1) (by omega)) hx
    unfold findN
    rw [if_neg h0, ih, if_neg (by omega)]
    omega
theorem findN_no : ∀ {l : List En} {id : Int}, (∀ i (h : i < l.length), l[i].id ≠ id) → findN l id = -1
  | [], id, h => rfl
  | e :: l, id, h => by
    have h0 : ¬ e.id = id := h 0 (by simp)
    have ih := findN_no (l := l) (id := id) (fun i hi => h (i + 1) (by simpa using hi))
    unfold findN
    rw [if_neg h0, ih, if_pos (by omega)]
/-- Alike? -/
def eqE (a b : En) : Bool := a.id == b.id && MBox.same a.bx b.bx
def sameL : List En → List En → Bool
  | [], [] => true
  | a :: l, b :: m => eqE a b && sameL l m
  | _, _ => false
theorem sameL_len : ∀ {l m : List En}, l.length ≠ m.length → sameL l m = false
  | [], [], h => absurd rfl h
  | [], _ :: _, _ => rfl
  | _ :: _, [], _ => rfl
  | a :: l, b :: m, h => by
    have := sameL_len (l := l) (m := m) (fun e => h (by simp [e]))
    unfold sameL
    rw [this, Bool.and_false]
def sameN (a b : Int) (l m : List En) : Bool := (a == b) && sameL l m
theorem eqE_refl (a : En) : eqE a a = true := by unfold eqE; rw [MBox.same_refl]; simp
theorem sameL_refl : ∀ l : List En, sameL l l = true
  | [] => rfl
  | a :: l => by unfold sameL; rw [sameL_refl l, eqE_refl]; rfl
theorem eqE_iff (a b : En) : eqE a b = true ↔ a = b := by
  unfold eqE
  simp only [Bool.and_eq_true, beq_iff_eq, MBox.same_iff]
  obtain ⟨i, x⟩ := a
  obtain ⟨j, y⟩ := b
  simp
theorem sameL_eq : ∀ {l m : List En}, sameL l m = true → l = m
  | [], [], _ => rfl
  | a :: l, b :: m, h => by
    unfold sameL at h
    simp only [Bool.and_eq_true] at h
    rw [(eqE_iff a b).1 h.1, sameL_eq h.2]
end Go.Proofs.Ytljcingmjemohaa.MNd
