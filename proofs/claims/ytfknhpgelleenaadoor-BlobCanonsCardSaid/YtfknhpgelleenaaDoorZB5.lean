/- What a claim leans on, part 5, cut by a program out of the texts MWkb. -/
import Derived.Test.YtfknhpgelleenaaDoorZB3
section
namespace Go.Proofs.YtfknhpgelleenaaDoor.MWkb
set_option linter.unusedVariables false
set_option linter.unusedSimpArgs false
open Go.Proofs.YtfknhpgelleenaaDoor
open Go.Proofs.YtfknhpgelleenaaDoor.MShape (Sh flats nodess nodes_pos nodess_nn)
/-- A number as an unsigned one. -/
def u64 (n : Int) : Int := n % 18446744073709551616
theorem u64_in (n : Int) : 0 ≤ u64 n ∧ u64 n < 18446744073709551616 := by unfold u64; omega
def nm (n size : Int) (o : Bool) : List Int := MOct.putL (u64 n) size o
theorem nm4 (n : Int) (o : Bool) : (nm n 4 o).length = 4 := by unfold nm; rw [MOct.putL_length]; rfl
theorem nm8 (n : Int) (o : Bool) : (nm n 8 o).length = 8 := by unfold nm; rw [MOct.putL_length]; rfl
def pt (o : Bool) (p : Int × Int) : List Int := nm p.1 8 o ++ nm p.2 8 o
theorem pt_len (o : Bool) (p : Int × Int) : (pt o p).length = 16 := by unfold pt; rw [List.length_append, nm8, nm8]
def nw : Int × Int := (-9223372036854775808, -9223372036854775808)
def ptsE (o : Bool) : List (Int × Int) → List Int
  | [] => []
  | p :: l => pt o p ++ ptsE o l
def run (o : Bool) (l : List (Int × Int)) : List Int := nm l.length 4 o ++ ptsE o l
def ptsOf : Sh → List (Int × Int)
  | .mk _ pts _ => pts
def ringsE (o : Bool) : List Sh → List Int
  | [] => []
  | p :: ps => run o (ptsOf p) ++ ringsE o ps
def mark (o : Bool) : Int := if o then 1 else 0
mutual
def enc (o : Bool) : Sh → List Int
  | .mk k pts ps => mark o :: (nm k 4 o ++ (if k = 1 then pt o (pts.headD nw) else if k = 2 then run o pts else nm ps.length 4 o ++ (if k = 3 then ringsE o ps else encs o ps)))
def encs (o : Bool) : List Sh → List Int
  | [] => []
  | p :: ps => enc o p ++ encs o ps
end
theorem ptsE_append (o : Bool) (l m : List (Int × Int)) : ptsE o (l ++ m) = ptsE o l ++ ptsE o m := by
  induction l with
  | nil => simp [ptsE]
  | cons a l ih => simp [ptsE, ih]
theorem ringsE_append (o : Bool) (l m : List Sh) : ringsE o (l ++ m) = ringsE o l ++ ringsE o m := by
  induction l with
  | nil => simp [ringsE]
  | cons a l ih => simp [ringsE, ih]
theorem encs_append (o : Bool) (l m : List Sh) : encs o (l ++ m) = encs o l ++ encs o m := by
  induction l with
  | nil => simp [encs]
  | cons a l ih => simp [encs, ih]
theorem ptsE_len (o : Bool) (l : List (Int × Int)) : (ptsE o l).length = 16 * l.length := by
  induction l with
  | nil => rfl
  | cons a l ih => simp only [ptsE, List.length_append, pt_len, ih, List.length_cons]; omega
theorem run_len (o : Bool) (l : List (Int × Int)) : (run o l).length = 4 + 16 * l.length := by unfold run; rw [List.length_append, nm4, ptsE_len]
theorem ptsE_take {o : Bool} {l : List (Int × Int)} {k : Nat} (h : k < l.length) : ptsE o (l.take (k + 1)) = ptsE o (l.take k) ++ pt o l[k] := by
  rw [List.take_succ_eq_append_getElem h, ptsE_append]; simp [ptsE]
theorem ringsE_take {o : Bool} {l : List Sh} {k : Nat} (h : k < l.length) : ringsE o (l.take (k + 1)) = ringsE o (l.take k) ++ run o (ptsOf l[k]) := by
  rw [List.take_succ_eq_append_getElem h, ringsE_append]; simp [ringsE]
theorem encs_take {o : Bool} {l : List Sh} {k : Nat} (h : k < l.length) : encs o (l.take (k + 1)) = encs o (l.take k) ++ enc o l[k] := by
  rw [List.take_succ_eq_append_getElem h, encs_append]; simp [encs]
theorem ptsE_take_le (o : Bool) (l : List (Int × Int)) (k : Nat) : (ptsE o (l.take k)).length ≤ (ptsE o l).length := by
  have := congrArg List.length (ptsE_append o (l.take k) (l.drop k))
  rw [List.take_append_drop, List.length_append] at this
  omega
theorem ringsE_take_le (o : Bool) (l : List Sh) (k : Nat) : (ringsE o (l.take k)).length ≤ (ringsE o l).length := by
  have := congrArg List.length (ringsE_append o (l.take k) (l.drop k))
  rw [List.take_append_drop, List.length_append] at this
  omega
theorem encs_take_le (o : Bool) (l : List Sh) (k : Nat) : (encs o (l.take k)).length ≤ (encs o l).length := by
  have := congrArg List.length (encs_append o (l.take k) (l.drop k))
  rw [List.take_append_drop, List.length_append] at this
  omega
theorem ringsE_len (o : Bool) : ∀ l : List Sh, ((ringsE o l).length : Int) ≤ 21 * nodess l + 16 * (flats l).length
  | [] => by simp [ringsE, nodess, flats]
  | .mk k pts ps :: l => by
    have h := ringsE_len o l
    have hp := nodess_nn ps
    have e1 : ringsE o (Sh.mk k pts ps :: l) = run o pts ++ ringsE o l := by simp [ringsE, ptsOf]
    have e2 : nodess (Sh.mk k pts ps :: l) = (1 + nodess ps) + nodess l := by simp [nodess, Sh.nodes]
    have e3 : (flats (Sh.mk k pts ps :: l)).length = pts.length + (flats ps).length + (flats l).length := by simp [flats, Sh.flat]; omega
    rw [e1, e2, e3, List.length_append, run_len]
    omega
mutual
theorem enc_len (o : Bool) : ∀ s : Sh, ((enc o s).length : Int) ≤ 21 * s.nodes + 16 * s.flat.length
  | .mk k pts ps => by
    have h1 := encs_len o ps
    have h2 := ringsE_len o ps
    have hn := nodess_nn ps
    unfold enc Sh.nodes Sh.flat
    rw [List.length_cons, List.length_append, nm4, List.length_append]
    split
    · rw [pt_len]; omega
    · split
      · rw [run_len]; omega
      · rw [List.length_append, nm4]
        split
        · omega
        · omega
theorem encs_len (o : Bool) : ∀ l : List Sh, ((encs o l).length : Int) ≤ 21 * nodess l + 16 * (flats l).length
  | [] => by simp [encs, nodess, flats]
  | p :: l => by
    have h1 := enc_len o p
    have h2 := encs_len o l
    unfold encs nodess flats
    rw [List.length_append, List.length_append]
    omega
end
end Go.Proofs.YtfknhpgelleenaaDoor.MWkb
end
