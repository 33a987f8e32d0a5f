/- Plain facts of layer 9: cells, nodes, their bytes. -/
import Derived.Test.YtlfcgicobhalmaaMGet
import Derived.Test.YtlfcgicobhalmaaMCell
namespace Go.Proofs.Ytlfcgicobhalmaa.MOct
open Go
set_option linter.unusedVariables false
set_option linter.unusedSimpArgs false
/-- A cell: its key, child, length, local bytes, next page. -/
abbrev Cel := Int × Int × Int × List Int × Int
def isPageV (n : Int) : Bool := decide (1 ≤ n) && decide (n ≤ 4000)
def localV (n : Int) : Int := if n < 0 ∨ n > 20000 then 0 else if n > 96 then 32 else n
def spillsV (c : Cel) : Bool := decide ((c.2.2.2.1.length : Int) < c.2.2.1)
def insideV (c : Cel) : Bool := isPageV c.2.1 && decide (c.2.2.1 = 0) && decide (c.2.2.2.2 = 0) && ((c.2.2.2.1.length : Int) == 0)
def leafyV (c : Cel) : Bool := decide (c.2.1 = 0) && decide (0 ≤ c.2.2.1) && decide (c.2.2.1 ≤ 20000) && decide ((c.2.2.2.1.length : Int) = localV c.2.2.1) && (if spillsV c then isPageV c.2.2.2.2 else decide (c.2.2.2.2 = 0))
/-- May a cell stand in a node? -/
def mayV (leaf : Bool) (c : Cel) : Bool := if leaf then leafyV c else insideV c
/-- May cells stand one behind the other, behind a key? -/
def goodFrom (leaf : Bool) : Option Int → List Cel → Bool
  | _, [] => true
  | p, c :: t => mayV leaf c && (match p with | none => true | some k => decide (k < c.1)) && goodFrom leaf (some c.1) t
def goodV (leaf : Bool) (right : Int) (l : List Cel) : Bool := (leaf == decide (right = 0)) && (leaf || isPageV right) && goodFrom leaf none l
/-- A number's 64 bits. -/
def u64 (n : Int) : Int := n % 18446744073709551616
theorem u64_range (n : Int) : 0 ≤ u64 n ∧ u64 n < 18446744073709551616 := by unfold u64; omega
/-- A cell's size and bytes. -/
def csize (leaf : Bool) (c : Cel) : Int := if leaf then sz (zig c.1) + sz (u64 c.2.2.1) + c.2.2.2.1.length + (if spillsV c then 4 else 0) else 4 + sz (zig c.1)
def cbytes (leaf : Bool) (c : Cel) : List Int := if leaf then vr (zig c.1) ++ vr (u64 c.2.2.1) ++ c.2.2.2.1 ++ (if spillsV c then putL (u64 c.2.2.2.2) 4 false else []) else putL (u64 c.2.1) 4 false ++ vr (zig c.1)
theorem cbytes_length (leaf : Bool) (c : Cel) : ((cbytes leaf c).length : Int) = csize leaf c := by
  have h4 : ∀ n, (putL n 4 false).length = 4 := fun n => by rw [putL_length]; rfl
  have h1 := vr_length_int (zig c.1)
  have h2 := vr_length_int (u64 c.2.2.1)
  unfold cbytes csize
  cases leaf
  · simp only [Bool.false_eq_true, if_false, List.length_append, h4, Int.natCast_add, h1]
    rfl
  · simp only [if_true, List.length_append, Int.natCast_add, h1, h2]
    split <;> simp [h4]
def nsize (leaf : Bool) (l : List Cel) : Int := 7 + (l.map (csize leaf)).sum
def nbody (leaf : Bool) (right : Int) (l : List Cel) : List Int := [if leaf then 1 else 2] ++ putL l.length 2 false ++ putL (u64 right) 4 false ++ l.flatMap (cbytes leaf)
theorem nbody_length (leaf : Bool) (right : Int) (l : List Cel) : ((nbody leaf right l).length : Int) = nsize leaf l := by
  have h4 : ∀ n, (putL n 4 false).length = 4 := fun n => by rw [putL_length]; rfl
  have h2 : ∀ n, (putL n 2 false).length = 2 := fun n => by rw [putL_length]; rfl
  have hf : ((l.flatMap (cbytes leaf)).length : Int) = (l.map (csize leaf)).sum := by
    induction l with
    | nil => rfl
    | cons c t ih => rw [List.flatMap_cons, List.length_append, List.map_cons, List.sum_cons, ← ih, ← cbytes_length, Int.natCast_add]
  unfold nbody nsize
  rw [List.length_append, List.length_append, List.length_append, h4, h2, Int.natCast_add, hf]
  rfl
/-- A node's page. -/
def nbytes (leaf : Bool) (right : Int) (l : List Cel) : List Int := if goodV leaf right l = true ∧ nsize leaf l ≤ 512 then nbody leaf right l ++ List.replicate (512 - (nbody leaf right l).length) 0 else []
theorem nbytes_length (leaf : Bool) (right : Int) (l : List Cel) (h : goodV leaf right l = true ∧ nsize leaf l ≤ 512) : (nbytes leaf right l).length = 512 := by
  have := nbody_length leaf right l
  unfold nbytes
  rw [if_pos h, List.length_append, List.length_replicate]
  omega
/-- Where a key stands, or would. -/
def findV (l : List Cel) (key : Int) : Int × Bool := match l.findIdx? (fun c => decide (key ≤ c.1)) with
  | some i => (i, (l.getD i (0, 0, 0, [], 0)).1 == key)
  | none => (l.length, false)
end Go.Proofs.Ytlfcgicobhalmaa.MOct
