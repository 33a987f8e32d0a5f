/- What a claim leans on, part 7, cut by a program out of the texts KM2. -/
import Derived.RowKit
namespace Foot
end Foot
namespace Go.Proofs.YtfknhpgelleenaaDoor
end Go.Proofs.YtfknhpgelleenaaDoor
namespace Go.Proofs.YtfknhpgelleenaaDoor.K
end Go.Proofs.YtfknhpgelleenaaDoor.K
namespace Go.Proofs.YtfknhpgelleenaaDoor.MBox
end Go.Proofs.YtfknhpgelleenaaDoor.MBox
namespace Go.Proofs.YtfknhpgelleenaaDoor.MChoose
end Go.Proofs.YtfknhpgelleenaaDoor.MChoose
namespace Go.Proofs.YtfknhpgelleenaaDoor.MDiv
end Go.Proofs.YtfknhpgelleenaaDoor.MDiv
namespace Go.Proofs.YtfknhpgelleenaaDoor.MOct
end Go.Proofs.YtfknhpgelleenaaDoor.MOct
namespace Go.Proofs.YtfknhpgelleenaaDoor.MPeek
end Go.Proofs.YtfknhpgelleenaaDoor.MPeek
namespace Go.Proofs.YtfknhpgelleenaaDoor.MRead
end Go.Proofs.YtfknhpgelleenaaDoor.MRead
namespace Go.Proofs.YtfknhpgelleenaaDoor.MShape
end Go.Proofs.YtfknhpgelleenaaDoor.MShape
namespace Go.Proofs.YtfknhpgelleenaaDoor.MText
end Go.Proofs.YtfknhpgelleenaaDoor.MText
namespace Go.Proofs.YtfknhpgelleenaaDoor.MWide
end Go.Proofs.YtfknhpgelleenaaDoor.MWide
namespace Go.Proofs.YtfknhpgelleenaaDoor.MWkb
end Go.Proofs.YtfknhpgelleenaaDoor.MWkb
namespace Go.Proofs.YtfknhpgelleenaaDoor.Open
end Go.Proofs.YtfknhpgelleenaaDoor.Open
namespace Go.Proofs.YtfknhpgelleenaaDoor.Reg
end Go.Proofs.YtfknhpgelleenaaDoor.Reg
namespace Go.Proofs.YtfknhpgelleenaaDoor.blobBack
end Go.Proofs.YtfknhpgelleenaaDoor.blobBack
namespace Go.Proofs.YtfknhpgelleenaaDoor.blobCanons
end Go.Proofs.YtfknhpgelleenaaDoor.blobCanons
namespace Go.Proofs.YtfknhpgelleenaaDoor.blobLies
end Go.Proofs.YtfknhpgelleenaaDoor.blobLies
namespace Go.Proofs.YtfknhpgelleenaaDoorW.PrintLast
end Go.Proofs.YtfknhpgelleenaaDoorW.PrintLast
namespace Go.Proofs.YtfknhpgelleenaaDoorW.PrintMore
end Go.Proofs.YtfknhpgelleenaaDoorW.PrintMore
namespace Go.Proofs.YtfknhpgelleenaaDoorW.PrintWords
end Go.Proofs.YtfknhpgelleenaaDoorW.PrintWords
namespace Kd
end Kd
section
namespace Go.Proofs.YtfknhpgelleenaaDoor.MWide
open Go
set_option linter.unusedVariables false
set_option linter.unusedSimpArgs false
def w0 (n : Int) : Int := n % 18446744073709551616
def w1 (n : Int) : Int := n / 18446744073709551616 % 18446744073709551616
def w2 (n : Int) : Int := n / 340282366920938463463374607431768211456 % 18446744073709551616
theorem parts (a m : Int) : a = m * (a / m) + a % m := (Int.mul_ediv_add_emod a m).symm
theorem p2 (i : Nat) : (0 : Int) < 2 ^ i := Int.pow_pos (by decide)
end Go.Proofs.YtfknhpgelleenaaDoor.MWide
namespace Go.Proofs.YtfknhpgelleenaaDoor.MDiv
open Go Go.Proofs.YtfknhpgelleenaaDoor.MWide Go.Proofs.YtfknhpgelleenaaDoor.MText
set_option linter.unusedVariables false
set_option linter.unusedSimpArgs false
/-- Both halves together. -/
theorem both {hi lo n m : Int} (h0 : 0 ≤ hi) (h1 : hi < 10000000000000000000) (l0 : 0 ≤ lo) (l1 : lo < 18446744073709551616)
    (hn : n = hi * 4294967296 + lo / 4294967296) (hm : m = n % 10000000000000000000 * 4294967296 + lo % 4294967296) :
    n / 10000000000000000000 * 4294967296 + m / 10000000000000000000 = (hi * 18446744073709551616 + lo) / 10000000000000000000 ∧ m % 10000000000000000000 = (hi * 18446744073709551616 + lo) % 10000000000000000000 ∧
    0 ≤ n ∧ n < 42949672960000000000000000000 ∧ 0 ≤ m ∧ m < 42949672960000000000000000000 := by omega
end Go.Proofs.YtfknhpgelleenaaDoor.MDiv
namespace Go.Proofs.YtfknhpgelleenaaDoor.MBox
open Go Go.Proofs.YtfknhpgelleenaaDoor.MWide
set_option linter.unusedVariables false
set_option linter.unusedSimpArgs false
structure Bx where
  no : Bool
  lx : Int
  ly : Int
  hx : Int
  hy : Int
theorem Bx.ext' {a b : Bx} (h0 : a.no = b.no) (h1 : a.lx = b.lx) (h2 : a.ly = b.ly) (h3 : a.hx = b.hx) (h4 : a.hy = b.hy) : a = b := by
  cases a; cases b; simp_all
def I64 (n : Int) : Prop := -9223372036854775808 ≤ n ∧ n ≤ 9223372036854775807
/-- Its numbers are a machine's. -/
def Bx.ok (b : Bx) : Prop := I64 b.lx ∧ I64 b.ly ∧ I64 b.hx ∧ I64 b.hy
def noneB : Bx := ⟨true, 0, 0, 0, 0⟩
def zeroB : Bx := ⟨false, 0, 0, 0, 0⟩
theorem noneB_ok : noneB.ok := by unfold Bx.ok noneB I64; simp
/-- Alike in all. -/
def same (a b : Bx) : Bool := a.no == b.no && (a.lx == b.lx && (a.ly == b.ly && (a.hx == b.hx && a.hy == b.hy)))
theorem same_iff (a b : Bx) : same a b = true ↔ a = b := by
  unfold same
  simp only [Bool.and_eq_true, beq_iff_eq]
  constructor
  · rintro ⟨h0, h1, h2, h3, h4⟩; exact Bx.ext' h0 h1 h2 h3 h4
  · rintro rfl; simp
theorem same_refl (a : Bx) : same a a = true := (same_iff a a).2 rfl
def has (b : Bx) : Bool := !b.no && (decide (b.lx ≤ b.hx) && decide (b.ly ≤ b.hy))
def good (b : Bx) : Bool := if b.no = true then same b noneB else decide (b.lx ≤ b.hx) && decide (b.ly ≤ b.hy)
theorem has_good (b : Bx) : (!b.no && good b) = has b := by
  unfold has good; cases b.no <;> simp
theorem has_good' (b : Bx) : (good b && !b.no) = has b := by rw [Bool.and_comm, has_good]
theorem has_iff (b : Bx) : has b = true ↔ b.no = false ∧ b.lx ≤ b.hx ∧ b.ly ≤ b.hy := by
  unfold has; simp
def mn (a b : Int) : Int := if a < b then a else b
def mx (a b : Int) : Int := if a < b then b else a
theorem mn_iff (a b : Int) : mn a b ≤ a ∧ mn a b ≤ b ∧ (mn a b = a ∨ mn a b = b) := by unfold mn; split <;> omega
theorem mx_iff (a b : Int) : a ≤ mx a b ∧ b ≤ mx a b ∧ (mx a b = a ∨ mx a b = b) := by unfold mx; split <;> omega
def both (a b : Bx) : Bx := ⟨false, mn a.lx b.lx, mn a.ly b.ly, mx a.hx b.hx, mx a.hy b.hy⟩
def union (a b : Bx) : Bx := if has a = true then if has b = true then both a b else a else if has b = true then b else noneB
theorem union_ok {a b : Bx} (ha : a.ok) (hb : b.ok) : (union a b).ok := by
  unfold union
  split
  · split
    · unfold both Bx.ok I64 at *
      have := mn_iff a.lx b.lx; have := mn_iff a.ly b.ly; have := mx_iff a.hx b.hx; have := mx_iff a.hy b.hy
      simp only; omega
    · exact ha
  · split
    · exact hb
    · exact noneB_ok
theorem has_both {a b : Bx} (ha : has a = true) (hb : has b = true) : has (both a b) = true := by
  rw [has_iff] at *
  unfold both
  have := mn_iff a.lx b.lx; have := mn_iff a.ly b.ly; have := mx_iff a.hx b.hx; have := mx_iff a.hy b.hy
  refine ⟨rfl, ?_, ?_⟩ <;> simp only <;> omega
theorem has_none : has noneB = false := rfl
theorem has_union (a b : Bx) : has (union a b) = (has a || has b) := by
  unfold union
  cases ha : has a <;> cases hb : has b <;> simp [ha, hb, has_none, has_both]
end Go.Proofs.YtfknhpgelleenaaDoor.MBox
namespace Go.Proofs.YtfknhpgelleenaaDoor.MChoose
open Go Go.Proofs.YtfknhpgelleenaaDoor.MWide Go.Proofs.YtfknhpgelleenaaDoor.MBox
set_option linter.unusedVariables false
set_option linter.unusedSimpArgs false
structure En where
  id : Int
  bx : Bx
def bound (l : List En) : Bx := l.foldl (fun o e => union o e.bx) noneB
end Go.Proofs.YtfknhpgelleenaaDoor.MChoose
end
