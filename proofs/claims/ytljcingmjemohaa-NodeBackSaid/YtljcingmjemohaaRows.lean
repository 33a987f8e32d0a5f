/-
  No cell of these rows narrows 'for every input' (looked for: loops, veiled, ifaces, maps, wideKeys, modest, calm, conditions, laid).
  DERIVED. THE GIVEN ROWS OF THIS SEAT. 7 by the template 'for every input the law returns true; each argument reads behind the call as it read before'; 0 by the template 'total and deterministic' (their statements: YtljcingmjemohaaTotals.lean).
  GIVEN WITH THE SEED: the statements are not yours to turn. If you find one false, say at which input.
  Laid BY PROGRAM, IN A SANDBOX (cutbox-rows.mjs): the forced cells as the released guide's own fill.sh prints them over the translation 845898429a26c3e0… (all of the seat's roots in one cut). By AI agents, Wed Nov 11 2026. No macro, syntax, notation, axiom, sorry.
-/
import Derived.Test.YtljcingmjemohaaChecked
import GoSem.Claim
import GoSem.ClaimJoined
import GoSem.ClaimMapViews
import Derived.JoinedTies
import Derived.KernelRfl
namespace Go.Proofs.Ytljcingmjemohaa
/- THE CELL 'sum', in the pinned program and in every row, IS THE sha256 OF THE DUMP (.gsa) THAT YtljcingmjemohaaProg.lean LOADS. Nothing in Lean hashes anything: it is a label: what it is worth is what the hold of that sum in a sandbox is worth. -/
noncomputable def Try.pinned : Pinned := { name := "ytljcingmjemohaa", sum := "845898429a26c3e038a8f85ca24159461a268996f90e753c0a67a33963546972", checked := Try.checked }
namespace Rows
def none {H : Type} : Left H := { results := [], args := [] }

/-- 'hachurelaw18.NodeForms': WHATEVER THE INPUT: true; the input reads as it did. -/
def nodeFormsSpec : ChangeSpec := { name := "nodeForms", fn := fun _ => fun
  | [d1, d2, d3] => { results := [.lit (.bool true)], args := [d1, d2, d3] }
  | _ => none }
def nodeFormsRow : OpenClaim := { program := "ytljcingmjemohaa", sum := "845898429a26c3e038a8f85ca24159461a268996f90e753c0a67a33963546972", func := "hachure/hachurelaw18.NodeForms", spec := "nodeForms", unfollowed := true, recurses := true, apart := false }
def NodeFormsSaid : Prop := nodeFormsRow.holds Try.pinned (OpenSpec.ofChange nodeFormsSpec)

/-- ITS FALSE NEIGHBOUR: 'it returns false'. Refute it at one input. -/
def nodeFormsWrong : ChangeSpec := { name := "nodeForms", fn := fun _ => fun
  | [d1, d2, d3] => { results := [.lit (.bool false)], args := [d1, d2, d3] }
  | _ => none }
def NodeFormsWrongFalsely : Prop := nodeFormsRow.holds Try.pinned (OpenSpec.ofChange nodeFormsWrong)

/-- 'hachurelaw18.NodeReads': WHATEVER THE INPUT: true; the input reads as it did. -/
def nodeReadsSpec : ChangeSpec := { name := "nodeReads", fn := fun _ => fun
  | [d] => { results := [.lit (.bool true)], args := [d] }
  | _ => none }
def nodeReadsRow : OpenClaim := { program := "ytljcingmjemohaa", sum := "845898429a26c3e038a8f85ca24159461a268996f90e753c0a67a33963546972", func := "hachure/hachurelaw18.NodeReads", spec := "nodeReads", unfollowed := true, recurses := true, apart := false }
def NodeReadsSaid : Prop := nodeReadsRow.holds Try.pinned (OpenSpec.ofChange nodeReadsSpec)

/-- ITS FALSE NEIGHBOUR: 'it returns false'. Refute it at one input. -/
def nodeReadsWrong : ChangeSpec := { name := "nodeReads", fn := fun _ => fun
  | [d] => { results := [.lit (.bool false)], args := [d] }
  | _ => none }
def NodeReadsWrongFalsely : Prop := nodeReadsRow.holds Try.pinned (OpenSpec.ofChange nodeReadsWrong)

/-- 'hachurelaw19.ChooseBest': WHATEVER THE INPUT: true; the input reads as it did. -/
def chooseBestSpec : ChangeSpec := { name := "chooseBest", fn := fun _ => fun
  | [d1, d2] => { results := [.lit (.bool true)], args := [d1, d2] }
  | _ => none }
def chooseBestRow : OpenClaim := { program := "ytljcingmjemohaa", sum := "845898429a26c3e038a8f85ca24159461a268996f90e753c0a67a33963546972", func := "hachure/hachurelaw19.ChooseBest", spec := "chooseBest", inPlace := ["math/bits.Add64", "math/bits.Sub64"], unfollowed := true, recurses := true, apart := false }
def ChooseBestSaid : Prop := chooseBestRow.holds Try.pinned (OpenSpec.ofChange chooseBestSpec)

/-- ITS FALSE NEIGHBOUR: 'it returns false'. Refute it at one input. -/
def chooseBestWrong : ChangeSpec := { name := "chooseBest", fn := fun _ => fun
  | [d1, d2] => { results := [.lit (.bool false)], args := [d1, d2] }
  | _ => none }
def ChooseBestWrongFalsely : Prop := chooseBestRow.holds Try.pinned (OpenSpec.ofChange chooseBestWrong)

/-- 'hachurelaw18.NodeBack': WHATEVER THE INPUT: true; the input reads as it did. -/
def nodeBackSpec : ChangeSpec := { name := "nodeBack", fn := fun _ => fun
  | [d1, d2, d3] => { results := [.lit (.bool true)], args := [d1, d2, d3] }
  | _ => none }
def nodeBackRow : OpenClaim := { program := "ytljcingmjemohaa", sum := "845898429a26c3e038a8f85ca24159461a268996f90e753c0a67a33963546972", func := "hachure/hachurelaw18.NodeBack", spec := "nodeBack", unfollowed := true, recurses := true, apart := false }
def NodeBackSaid : Prop := nodeBackRow.holds Try.pinned (OpenSpec.ofChange nodeBackSpec)

/-- ITS FALSE NEIGHBOUR: 'it returns false'. Refute it at one input. -/
def nodeBackWrong : ChangeSpec := { name := "nodeBack", fn := fun _ => fun
  | [d1, d2, d3] => { results := [.lit (.bool false)], args := [d1, d2, d3] }
  | _ => none }
def NodeBackWrongFalsely : Prop := nodeBackRow.holds Try.pinned (OpenSpec.ofChange nodeBackWrong)

/-- 'hachurelaw19.ChoosePicks': WHATEVER THE INPUT: true; the input reads as it did. -/
def choosePicksSpec : ChangeSpec := { name := "choosePicks", fn := fun _ => fun
  | [d1, d2, d3] => { results := [.lit (.bool true)], args := [d1, d2, d3] }
  | _ => none }
def choosePicksRow : OpenClaim := { program := "ytljcingmjemohaa", sum := "845898429a26c3e038a8f85ca24159461a268996f90e753c0a67a33963546972", func := "hachure/hachurelaw19.ChoosePicks", spec := "choosePicks", inPlace := ["math/bits.Add64", "math/bits.Sub64"], unfollowed := true, recurses := true, apart := false }
def ChoosePicksSaid : Prop := choosePicksRow.holds Try.pinned (OpenSpec.ofChange choosePicksSpec)

/-- ITS FALSE NEIGHBOUR: 'it returns false'. Refute it at one input. -/
def choosePicksWrong : ChangeSpec := { name := "choosePicks", fn := fun _ => fun
  | [d1, d2, d3] => { results := [.lit (.bool false)], args := [d1, d2, d3] }
  | _ => none }
def ChoosePicksWrongFalsely : Prop := choosePicksRow.holds Try.pinned (OpenSpec.ofChange choosePicksWrong)

/-- 'hachurelaw19.ChooseSplits': WHATEVER THE INPUT: true; the input reads as it did. -/
def chooseSplitsSpec : ChangeSpec := { name := "chooseSplits", fn := fun _ => fun
  | [d] => { results := [.lit (.bool true)], args := [d] }
  | _ => none }
def chooseSplitsRow : OpenClaim := { program := "ytljcingmjemohaa", sum := "845898429a26c3e038a8f85ca24159461a268996f90e753c0a67a33963546972", func := "hachure/hachurelaw19.ChooseSplits", spec := "chooseSplits", inPlace := ["math/bits.Add64", "math/bits.Sub64"], unfollowed := true, recurses := true, apart := false }
def ChooseSplitsSaid : Prop := chooseSplitsRow.holds Try.pinned (OpenSpec.ofChange chooseSplitsSpec)

/-- ITS FALSE NEIGHBOUR: 'it returns false'. Refute it at one input. -/
def chooseSplitsWrong : ChangeSpec := { name := "chooseSplits", fn := fun _ => fun
  | [d] => { results := [.lit (.bool false)], args := [d] }
  | _ => none }
def ChooseSplitsWrongFalsely : Prop := chooseSplitsRow.holds Try.pinned (OpenSpec.ofChange chooseSplitsWrong)

/-- 'hachurelaw19.ChooseParts': WHATEVER THE INPUT: true; the input reads as it did. -/
def choosePartsSpec : ChangeSpec := { name := "chooseParts", fn := fun _ => fun
  | [d] => { results := [.lit (.bool true)], args := [d] }
  | _ => none }
def choosePartsRow : OpenClaim := { program := "ytljcingmjemohaa", sum := "845898429a26c3e038a8f85ca24159461a268996f90e753c0a67a33963546972", func := "hachure/hachurelaw19.ChooseParts", spec := "chooseParts", inPlace := ["math/bits.Add64", "math/bits.Sub64"], unfollowed := true, recurses := true, apart := false }
def ChoosePartsSaid : Prop := choosePartsRow.holds Try.pinned (OpenSpec.ofChange choosePartsSpec)

/-- ITS FALSE NEIGHBOUR: 'it returns false'. Refute it at one input. -/
def choosePartsWrong : ChangeSpec := { name := "chooseParts", fn := fun _ => fun
  | [d] => { results := [.lit (.bool false)], args := [d] }
  | _ => none }
def ChoosePartsWrongFalsely : Prop := choosePartsRow.holds Try.pinned (OpenSpec.ofChange choosePartsWrong)

/- THE SECOND FORM. 'bulk': how many values and letters a reading holds, each counted each time it is reached (what is shared counts as often as it is met; a slice's spare places count too). A statement '..UptoSaid' is the law's where the arguments, and the package variables that the reading takes, are together of bulk at most 1048576: NARROWER than '..Said'. Prove '..Said' where nothing that the law and all that it calls make is longer than what came in: it says more and counts as full. Else prove '..UptoSaid'. A law counts once. -/
mutual
def uptoBulk {H : Type} : DataW H → Nat
  | .lit (.string bytes) => bytes.length + 1
  | .lit _ => 1
  | .nil => 1
  | .ptr d => uptoBulk d + 1
  | .slice elems spare => uptoBulkAll elems + uptoBulkAll spare + 1
  | .agg parts => uptoBulkAll parts + 1
  | .iface _ d => uptoBulk d + 1
  | .map entries => uptoBulkEntries entries + 1
  | .held _ => 1
def uptoBulkAll {H : Type} : List (DataW H) → Nat
  | [] => 0
  | d :: r => uptoBulk d + uptoBulkAll r
def uptoBulkEntries {H : Type} : List (Lit × DataW H) → Nat
  | [] => 0
  | x :: r => uptoBulkEntry x + uptoBulkEntries r
def uptoBulkEntry {H : Type} : Lit × DataW H → Nat
  | (.string bytes, d) => bytes.length + uptoBulk d + 1
  | (_, d) => uptoBulk d + 1
 end
def uptoSmall : (H : Type) → List (DataW H) → Bool := fun _ ds => decide (uptoBulkAll ds ≤ 1048576)
def OpenSpec.upto (s : _root_.Go.ChangeSpec) : _root_.Go.OpenSpec := { _root_.Go.OpenSpec.ofChange s with cond := some uptoSmall }

/-- 'hachurelaw18.NodeForms', WHERE WHAT IT READS IS OF BULK AT MOST 1048576: true; the input reads as it did. -/
def nodeFormsUptoRow : OpenClaim := { program := "ytljcingmjemohaa", sum := "845898429a26c3e038a8f85ca24159461a268996f90e753c0a67a33963546972", func := "hachure/hachurelaw18.NodeForms", spec := "nodeForms", unfollowed := true, recurses := true, apart := false, narrowed := true }
def NodeFormsUptoSaid : Prop := nodeFormsUptoRow.holds Try.pinned (OpenSpec.upto nodeFormsSpec)

/-- 'hachurelaw18.NodeReads', WHERE WHAT IT READS IS OF BULK AT MOST 1048576: true; the input reads as it did. -/
def nodeReadsUptoRow : OpenClaim := { program := "ytljcingmjemohaa", sum := "845898429a26c3e038a8f85ca24159461a268996f90e753c0a67a33963546972", func := "hachure/hachurelaw18.NodeReads", spec := "nodeReads", unfollowed := true, recurses := true, apart := false, narrowed := true }
def NodeReadsUptoSaid : Prop := nodeReadsUptoRow.holds Try.pinned (OpenSpec.upto nodeReadsSpec)

/-- 'hachurelaw19.ChooseBest', WHERE WHAT IT READS IS OF BULK AT MOST 1048576: true; the input reads as it did. -/
def chooseBestUptoRow : OpenClaim := { program := "ytljcingmjemohaa", sum := "845898429a26c3e038a8f85ca24159461a268996f90e753c0a67a33963546972", func := "hachure/hachurelaw19.ChooseBest", spec := "chooseBest", inPlace := ["math/bits.Add64", "math/bits.Sub64"], unfollowed := true, recurses := true, apart := false, narrowed := true }
def ChooseBestUptoSaid : Prop := chooseBestUptoRow.holds Try.pinned (OpenSpec.upto chooseBestSpec)

/-- 'hachurelaw18.NodeBack', WHERE WHAT IT READS IS OF BULK AT MOST 1048576: true; the input reads as it did. -/
def nodeBackUptoRow : OpenClaim := { program := "ytljcingmjemohaa", sum := "845898429a26c3e038a8f85ca24159461a268996f90e753c0a67a33963546972", func := "hachure/hachurelaw18.NodeBack", spec := "nodeBack", unfollowed := true, recurses := true, apart := false, narrowed := true }
def NodeBackUptoSaid : Prop := nodeBackUptoRow.holds Try.pinned (OpenSpec.upto nodeBackSpec)

/-- 'hachurelaw19.ChoosePicks', WHERE WHAT IT READS IS OF BULK AT MOST 1048576: true; the input reads as it did. -/
def choosePicksUptoRow : OpenClaim := { program := "ytljcingmjemohaa", sum := "845898429a26c3e038a8f85ca24159461a268996f90e753c0a67a33963546972", func := "hachure/hachurelaw19.ChoosePicks", spec := "choosePicks", inPlace := ["math/bits.Add64", "math/bits.Sub64"], unfollowed := true, recurses := true, apart := false, narrowed := true }
def ChoosePicksUptoSaid : Prop := choosePicksUptoRow.holds Try.pinned (OpenSpec.upto choosePicksSpec)

/-- 'hachurelaw19.ChooseSplits', WHERE WHAT IT READS IS OF BULK AT MOST 1048576: true; the input reads as it did. -/
def chooseSplitsUptoRow : OpenClaim := { program := "ytljcingmjemohaa", sum := "845898429a26c3e038a8f85ca24159461a268996f90e753c0a67a33963546972", func := "hachure/hachurelaw19.ChooseSplits", spec := "chooseSplits", inPlace := ["math/bits.Add64", "math/bits.Sub64"], unfollowed := true, recurses := true, apart := false, narrowed := true }
def ChooseSplitsUptoSaid : Prop := chooseSplitsUptoRow.holds Try.pinned (OpenSpec.upto chooseSplitsSpec)

/-- 'hachurelaw19.ChooseParts', WHERE WHAT IT READS IS OF BULK AT MOST 1048576: true; the input reads as it did. -/
def choosePartsUptoRow : OpenClaim := { program := "ytljcingmjemohaa", sum := "845898429a26c3e038a8f85ca24159461a268996f90e753c0a67a33963546972", func := "hachure/hachurelaw19.ChooseParts", spec := "chooseParts", inPlace := ["math/bits.Add64", "math/bits.Sub64"], unfollowed := true, recurses := true, apart := false, narrowed := true }
def ChoosePartsUptoSaid : Prop := choosePartsUptoRow.holds Try.pinned (OpenSpec.upto choosePartsSpec)

end Rows
end Go.Proofs.Ytljcingmjemohaa
