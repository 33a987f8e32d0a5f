/- What a claim leans on, part 8, cut by a program out of the texts MPeek. -/
import Derived.Test.YtfknhpgelleenaaDoorZB6
import Derived.Test.YtfknhpgelleenaaDoorZB7
section
namespace Go.Proofs.YtfknhpgelleenaaDoor.MPeek
set_option linter.unusedVariables false
set_option linter.unusedSimpArgs false
open Go.Proofs.YtfknhpgelleenaaDoor
open Go.Proofs.YtfknhpgelleenaaDoor.MBox (Bx noneB zeroB good)
open Go.Proofs.YtfknhpgelleenaaDoor.MShape (Sh)
open Go.Proofs.YtfknhpgelleenaaDoor.MOct (getV)
open Go.Proofs.YtfknhpgelleenaaDoor.MRead (wrapI readS)
structure Hd where
  srs : Int
  low : Bool
  bx : Bool
  em : Bool
  box : Bx
def hd0 : Hd := ⟨0, false, false, false, zeroB⟩
def bitB (f k : Int) : Bool := decide (f / k % 2 = 1)
def w32 (n : Int) : Int := (n + 2147483648) % 4294967296 - 2147483648
inductive Pk where
  | bad (c : Int)
  | ok (h : Hd) (n : Nat)
def flagBad (f : Int) : Bool := !decide (f = f % 2 + 2 * (f / 2 % 2) + 16 * (f / 16 % 2)) || (bitB f 2 && bitB f 16)
def magic : List Int := [71, 80, 0]
def wrongS (b : List Int) : Bool := if b.take 3 = magic.take b.length then (if b.length ≤ 3 then false else flagBad (b.getD 3 0)) else true
def at8 (low : Bool) (b : List Int) (k : Nat) : Int := wrapI (getV (b.drop k) 8 low).1
def boxAt (low : Bool) (b : List Int) : Bx := ⟨false, at8 low b 8, at8 low b 24, at8 low b 16, at8 low b 32⟩
def headS (f : Int) (b : List Int) : Hd := ⟨w32 (getV (b.drop 4) 4 (bitB f 1)).1, bitB f 1, bitB f 2, bitB f 16, noneB⟩
def peekS (b : List Int) : Pk :=
  if wrongS b = true then .bad 9
  else if b.length < 8 then .bad 8
  else if bitB (b.getD 3 0) 2 = false then .ok (headS (b.getD 3 0) b) 8
  else if b.length < 40 then .bad 8
  else if good (boxAt (bitB (b.getD 3 0) 1) b) = true then .ok { headS (b.getD 3 0) b with box := boxAt (bitB (b.getD 3 0) 1) b } 40
  else .bad 9
def emptyS : Sh := .mk 0 [] []
/-- The head and the shape of a blob, or an error. -/
inductive Op where
  | bad (c : Int)
  | ok (h : Hd) (s : Sh)
def wantS (h : Hd) (low : Bool) (around : Bx) : Hd := ⟨h.srs, low, h.bx, around.no, if h.bx = true then around else noneB⟩
def sameH (a b : Hd) : Bool := a.srs == b.srs && (a.low == b.low && (a.bx == b.bx && (a.em == b.em && MBox.same a.box b.box)))
/-- boxF: the box of a shape's points. -/
def openS (boxF : List (Int × Int) → Bx) (b : List Int) : Op :=
  match peekS b with
  | .bad c => .bad c
  | .ok h n =>
    if (readS (b.drop n)).2 ≠ 0 then .bad (readS (b.drop n)).2
    else if sameH h (wantS h (decide ((b.drop n).headD 0 = 1)) (boxF (readS (b.drop n)).1.flat)) = true then .ok h (readS (b.drop n)).1
    else .bad 9
end Go.Proofs.YtfknhpgelleenaaDoor.MPeek
end
