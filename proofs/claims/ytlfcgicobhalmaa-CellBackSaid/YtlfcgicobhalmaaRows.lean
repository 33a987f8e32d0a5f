/-
  No cell of these rows narrows 'for every input' (looked for: loops, veiled, ifaces, maps, wideKeys, modest, calm, conditions, laid).
  DERIVED. THE GIVEN ROWS OF THIS SEAT. 8 by the template 'for every input the law returns true; each argument reads behind the call as it read before'; 0 by the template 'total and deterministic' (their statements: YtlfcgicobhalmaaTotals.lean).
  GIVEN WITH THE SEED: the statements are not yours to turn. If you find one false, say at which input.
  Laid BY PROGRAM, IN A SANDBOX (cutbox-rows.mjs): the forced cells as the released guide's own fill.sh prints them over the translation 5971c427ff2db71a… (all of the seat's roots in one cut). By AI agents, Wed Nov 11 2026. No macro, syntax, notation, axiom, sorry.
-/
import Derived.Test.YtlfcgicobhalmaaChecked
import GoSem.Claim
import GoSem.ClaimJoined
import GoSem.ClaimMapViews
import Derived.JoinedTies
import Derived.KernelRfl
namespace Go.Proofs.Ytlfcgicobhalmaa
/- THE CELL 'sum', in the pinned program and in every row, IS THE sha256 OF THE DUMP (.gsa) THAT YtlfcgicobhalmaaProg.lean LOADS. Nothing in Lean hashes anything: it is a label: what it is worth is what the hold of that sum in a sandbox is worth. -/
noncomputable def Try.pinned : Pinned := { name := "ytlfcgicobhalmaa", sum := "5971c427ff2db71a3d7b0936a185be7bd8c57b5c8a5d823a01728b89e23d2d5f", checked := Try.checked }
namespace Rows
def none {H : Type} : Left H := { results := [], args := [] }

/-- 'hachurelaw02.OctetOrder': WHATEVER THE INPUT: true; the input reads as it did. -/
def octetOrderSpec : ChangeSpec := { name := "octetOrder", fn := fun _ => fun
  | [d1, d2, d3] => { results := [.lit (.bool true)], args := [d1, d2, d3] }
  | _ => none }
def octetOrderRow : OpenClaim := { program := "ytlfcgicobhalmaa", sum := "5971c427ff2db71a3d7b0936a185be7bd8c57b5c8a5d823a01728b89e23d2d5f", func := "hachure/hachurelaw02.OctetOrder", spec := "octetOrder", apart := false }
def OctetOrderSaid : Prop := octetOrderRow.holds Try.pinned (OpenSpec.ofChange octetOrderSpec)

/-- ITS FALSE NEIGHBOUR: 'it returns false'. Refute it at one input. -/
def octetOrderWrong : ChangeSpec := { name := "octetOrder", fn := fun _ => fun
  | [d1, d2, d3] => { results := [.lit (.bool false)], args := [d1, d2, d3] }
  | _ => none }
def OctetOrderWrongFalsely : Prop := octetOrderRow.holds Try.pinned (OpenSpec.ofChange octetOrderWrong)

/-- 'hachurelaw02.OctetPuts': WHATEVER THE INPUT: true; the input reads as it did. -/
def octetPutsSpec : ChangeSpec := { name := "octetPuts", fn := fun _ => fun
  | [d1, d2] => { results := [.lit (.bool true)], args := [d1, d2] }
  | _ => none }
def octetPutsRow : OpenClaim := { program := "ytlfcgicobhalmaa", sum := "5971c427ff2db71a3d7b0936a185be7bd8c57b5c8a5d823a01728b89e23d2d5f", func := "hachure/hachurelaw02.OctetPuts", spec := "octetPuts", apart := false }
def OctetPutsSaid : Prop := octetPutsRow.holds Try.pinned (OpenSpec.ofChange octetPutsSpec)

/-- ITS FALSE NEIGHBOUR: 'it returns false'. Refute it at one input. -/
def octetPutsWrong : ChangeSpec := { name := "octetPuts", fn := fun _ => fun
  | [d1, d2] => { results := [.lit (.bool false)], args := [d1, d2] }
  | _ => none }
def OctetPutsWrongFalsely : Prop := octetPutsRow.holds Try.pinned (OpenSpec.ofChange octetPutsWrong)

/-- 'hachurelaw09.CellZigs': WHATEVER THE INPUT: true; the input reads as it did. -/
def cellZigsSpec : ChangeSpec := { name := "cellZigs", fn := fun _ => fun
  | [d1, d2] => { results := [.lit (.bool true)], args := [d1, d2] }
  | _ => none }
def cellZigsRow : OpenClaim := { program := "ytlfcgicobhalmaa", sum := "5971c427ff2db71a3d7b0936a185be7bd8c57b5c8a5d823a01728b89e23d2d5f", func := "hachure/hachurelaw09.CellZigs", spec := "cellZigs", unfollowed := true, recurses := true, apart := false }
def CellZigsSaid : Prop := cellZigsRow.holds Try.pinned (OpenSpec.ofChange cellZigsSpec)

/-- ITS FALSE NEIGHBOUR: 'it returns false'. Refute it at one input. -/
def cellZigsWrong : ChangeSpec := { name := "cellZigs", fn := fun _ => fun
  | [d1, d2] => { results := [.lit (.bool false)], args := [d1, d2] }
  | _ => none }
def CellZigsWrongFalsely : Prop := cellZigsRow.holds Try.pinned (OpenSpec.ofChange cellZigsWrong)

/-- 'hachurelaw02.OctetNone': WHATEVER THE INPUT: true; the input reads as it did. -/
def octetNoneSpec : ChangeSpec := { name := "octetNone", fn := fun _ => fun
  | [d] => { results := [.lit (.bool true)], args := [d] }
  | _ => none }
def octetNoneRow : OpenClaim := { program := "ytlfcgicobhalmaa", sum := "5971c427ff2db71a3d7b0936a185be7bd8c57b5c8a5d823a01728b89e23d2d5f", func := "hachure/hachurelaw02.OctetNone", spec := "octetNone", unfollowed := true, recurses := true, apart := false }
def OctetNoneSaid : Prop := octetNoneRow.holds Try.pinned (OpenSpec.ofChange octetNoneSpec)

/-- ITS FALSE NEIGHBOUR: 'it returns false'. Refute it at one input. -/
def octetNoneWrong : ChangeSpec := { name := "octetNone", fn := fun _ => fun
  | [d] => { results := [.lit (.bool false)], args := [d] }
  | _ => none }
def OctetNoneWrongFalsely : Prop := octetNoneRow.holds Try.pinned (OpenSpec.ofChange octetNoneWrong)

/-- 'hachurelaw09.CellFinds': WHATEVER THE INPUT: true; the input reads as it did. -/
def cellFindsSpec : ChangeSpec := { name := "cellFinds", fn := fun _ => fun
  | [d1, d2, d3] => { results := [.lit (.bool true)], args := [d1, d2, d3] }
  | _ => none }
def cellFindsRow : OpenClaim := { program := "ytlfcgicobhalmaa", sum := "5971c427ff2db71a3d7b0936a185be7bd8c57b5c8a5d823a01728b89e23d2d5f", func := "hachure/hachurelaw09.CellFinds", spec := "cellFinds", unfollowed := true, recurses := true, apart := false }
def CellFindsSaid : Prop := cellFindsRow.holds Try.pinned (OpenSpec.ofChange cellFindsSpec)

/-- ITS FALSE NEIGHBOUR: 'it returns false'. Refute it at one input. -/
def cellFindsWrong : ChangeSpec := { name := "cellFinds", fn := fun _ => fun
  | [d1, d2, d3] => { results := [.lit (.bool false)], args := [d1, d2, d3] }
  | _ => none }
def CellFindsWrongFalsely : Prop := cellFindsRow.holds Try.pinned (OpenSpec.ofChange cellFindsWrong)

/-- 'hachurelaw02.OctetBack': WHATEVER THE INPUT: true; the input reads as it did. -/
def octetBackSpec : ChangeSpec := { name := "octetBack", fn := fun _ => fun
  | [d] => { results := [.lit (.bool true)], args := [d] }
  | _ => none }
def octetBackRow : OpenClaim := { program := "ytlfcgicobhalmaa", sum := "5971c427ff2db71a3d7b0936a185be7bd8c57b5c8a5d823a01728b89e23d2d5f", func := "hachure/hachurelaw02.OctetBack", spec := "octetBack", unfollowed := true, recurses := true, apart := false }
def OctetBackSaid : Prop := octetBackRow.holds Try.pinned (OpenSpec.ofChange octetBackSpec)

/-- ITS FALSE NEIGHBOUR: 'it returns false'. Refute it at one input. -/
def octetBackWrong : ChangeSpec := { name := "octetBack", fn := fun _ => fun
  | [d] => { results := [.lit (.bool false)], args := [d] }
  | _ => none }
def OctetBackWrongFalsely : Prop := octetBackRow.holds Try.pinned (OpenSpec.ofChange octetBackWrong)

/-- 'hachurelaw09.CellForms': WHATEVER THE INPUT: true; the input reads as it did. -/
def cellFormsSpec : ChangeSpec := { name := "cellForms", fn := fun _ => fun
  | [d1, d2] => { results := [.lit (.bool true)], args := [d1, d2] }
  | _ => none }
def cellFormsRow : OpenClaim := { program := "ytlfcgicobhalmaa", sum := "5971c427ff2db71a3d7b0936a185be7bd8c57b5c8a5d823a01728b89e23d2d5f", func := "hachure/hachurelaw09.CellForms", spec := "cellForms", unfollowed := true, recurses := true, apart := false }
def CellFormsSaid : Prop := cellFormsRow.holds Try.pinned (OpenSpec.ofChange cellFormsSpec)

/-- ITS FALSE NEIGHBOUR: 'it returns false'. Refute it at one input. -/
def cellFormsWrong : ChangeSpec := { name := "cellForms", fn := fun _ => fun
  | [d1, d2] => { results := [.lit (.bool false)], args := [d1, d2] }
  | _ => none }
def CellFormsWrongFalsely : Prop := cellFormsRow.holds Try.pinned (OpenSpec.ofChange cellFormsWrong)

/-- 'hachurelaw09.CellBack': WHATEVER THE INPUT: true; the input reads as it did. -/
def cellBackSpec : ChangeSpec := { name := "cellBack", fn := fun _ => fun
  | [d1, d2] => { results := [.lit (.bool true)], args := [d1, d2] }
  | _ => none }
def cellBackRow : OpenClaim := { program := "ytlfcgicobhalmaa", sum := "5971c427ff2db71a3d7b0936a185be7bd8c57b5c8a5d823a01728b89e23d2d5f", func := "hachure/hachurelaw09.CellBack", spec := "cellBack", unfollowed := true, recurses := true, apart := false }
def CellBackSaid : Prop := cellBackRow.holds Try.pinned (OpenSpec.ofChange cellBackSpec)

/-- ITS FALSE NEIGHBOUR: 'it returns false'. Refute it at one input. -/
def cellBackWrong : ChangeSpec := { name := "cellBack", fn := fun _ => fun
  | [d1, d2] => { results := [.lit (.bool false)], args := [d1, d2] }
  | _ => none }
def CellBackWrongFalsely : Prop := cellBackRow.holds Try.pinned (OpenSpec.ofChange cellBackWrong)

/- THE SECOND FORM. 'bulk': how many values and letters a reading holds, each counted each time it is reached (what is shared counts as often as it is met; a slice's spare places count too). A statement '..UptoSaid' is the law's where the arguments, and the package variables that the reading takes, are together of bulk at most 1048576: NARROWER than '..Said'. Prove '..Said' where nothing that the law and all that it calls make is longer than what came in: it says more and counts as full. Else prove '..UptoSaid'. A law counts once. -/
mutual
def uptoBulk {H : Type} : DataW H → Nat
  | .lit (.string bytes) => bytes.length + 1
  | .lit _ => 1
  | .nil => 1
  | .ptr d => uptoBulk d + 1
  | .slice elems spare => uptoBulkAll elems + uptoBulkAll spare + 1
  | .agg parts => uptoBulkAll parts + 1
  | .iface _ d => uptoBulk d + 1
  | .map entries => uptoBulkEntries entries + 1
  | .held _ => 1
def uptoBulkAll {H : Type} : List (DataW H) → Nat
  | [] => 0
  | d :: r => uptoBulk d + uptoBulkAll r
def uptoBulkEntries {H : Type} : List (Lit × DataW H) → Nat
  | [] => 0
  | x :: r => uptoBulkEntry x + uptoBulkEntries r
def uptoBulkEntry {H : Type} : Lit × DataW H → Nat
  | (.string bytes, d) => bytes.length + uptoBulk d + 1
  | (_, d) => uptoBulk d + 1
 end
def uptoSmall : (H : Type) → List (DataW H) → Bool := fun _ ds => decide (uptoBulkAll ds ≤ 1048576)
def OpenSpec.upto (s : _root_.Go.ChangeSpec) : _root_.Go.OpenSpec := { _root_.Go.OpenSpec.ofChange s with cond := some uptoSmall }

/-- 'hachurelaw02.OctetOrder', WHERE WHAT IT READS IS OF BULK AT MOST 1048576: true; the input reads as it did. -/
def octetOrderUptoRow : OpenClaim := { program := "ytlfcgicobhalmaa", sum := "5971c427ff2db71a3d7b0936a185be7bd8c57b5c8a5d823a01728b89e23d2d5f", func := "hachure/hachurelaw02.OctetOrder", spec := "octetOrder", apart := false, narrowed := true }
def OctetOrderUptoSaid : Prop := octetOrderUptoRow.holds Try.pinned (OpenSpec.upto octetOrderSpec)

/-- 'hachurelaw02.OctetPuts', WHERE WHAT IT READS IS OF BULK AT MOST 1048576: true; the input reads as it did. -/
def octetPutsUptoRow : OpenClaim := { program := "ytlfcgicobhalmaa", sum := "5971c427ff2db71a3d7b0936a185be7bd8c57b5c8a5d823a01728b89e23d2d5f", func := "hachure/hachurelaw02.OctetPuts", spec := "octetPuts", apart := false, narrowed := true }
def OctetPutsUptoSaid : Prop := octetPutsUptoRow.holds Try.pinned (OpenSpec.upto octetPutsSpec)

/-- 'hachurelaw09.CellZigs', WHERE WHAT IT READS IS OF BULK AT MOST 1048576: true; the input reads as it did. -/
def cellZigsUptoRow : OpenClaim := { program := "ytlfcgicobhalmaa", sum := "5971c427ff2db71a3d7b0936a185be7bd8c57b5c8a5d823a01728b89e23d2d5f", func := "hachure/hachurelaw09.CellZigs", spec := "cellZigs", unfollowed := true, recurses := true, apart := false, narrowed := true }
def CellZigsUptoSaid : Prop := cellZigsUptoRow.holds Try.pinned (OpenSpec.upto cellZigsSpec)

/-- 'hachurelaw02.OctetNone', WHERE WHAT IT READS IS OF BULK AT MOST 1048576: true; the input reads as it did. -/
def octetNoneUptoRow : OpenClaim := { program := "ytlfcgicobhalmaa", sum := "5971c427ff2db71a3d7b0936a185be7bd8c57b5c8a5d823a01728b89e23d2d5f", func := "hachure/hachurelaw02.OctetNone", spec := "octetNone", unfollowed := true, recurses := true, apart := false, narrowed := true }
def OctetNoneUptoSaid : Prop := octetNoneUptoRow.holds Try.pinned (OpenSpec.upto octetNoneSpec)

/-- 'hachurelaw09.CellFinds', WHERE WHAT IT READS IS OF BULK AT MOST 1048576: true; the input reads as it did. -/
def cellFindsUptoRow : OpenClaim := { program := "ytlfcgicobhalmaa", sum := "5971c427ff2db71a3d7b0936a185be7bd8c57b5c8a5d823a01728b89e23d2d5f", func := "hachure/hachurelaw09.CellFinds", spec := "cellFinds", unfollowed := true, recurses := true, apart := false, narrowed := true }
def CellFindsUptoSaid : Prop := cellFindsUptoRow.holds Try.pinned (OpenSpec.upto cellFindsSpec)

/-- 'hachurelaw02.OctetBack', WHERE WHAT IT READS IS OF BULK AT MOST 1048576: true; the input reads as it did. -/
def octetBackUptoRow : OpenClaim := { program := "ytlfcgicobhalmaa", sum := "5971c427ff2db71a3d7b0936a185be7bd8c57b5c8a5d823a01728b89e23d2d5f", func := "hachure/hachurelaw02.OctetBack", spec := "octetBack", unfollowed := true, recurses := true, apart := false, narrowed := true }
def OctetBackUptoSaid : Prop := octetBackUptoRow.holds Try.pinned (OpenSpec.upto octetBackSpec)

/-- 'hachurelaw09.CellForms', WHERE WHAT IT READS IS OF BULK AT MOST 1048576: true; the input reads as it did. -/
def cellFormsUptoRow : OpenClaim := { program := "ytlfcgicobhalmaa", sum := "5971c427ff2db71a3d7b0936a185be7bd8c57b5c8a5d823a01728b89e23d2d5f", func := "hachure/hachurelaw09.CellForms", spec := "cellForms", unfollowed := true, recurses := true, apart := false, narrowed := true }
def CellFormsUptoSaid : Prop := cellFormsUptoRow.holds Try.pinned (OpenSpec.upto cellFormsSpec)

/-- 'hachurelaw09.CellBack', WHERE WHAT IT READS IS OF BULK AT MOST 1048576: true; the input reads as it did. -/
def cellBackUptoRow : OpenClaim := { program := "ytlfcgicobhalmaa", sum := "5971c427ff2db71a3d7b0936a185be7bd8c57b5c8a5d823a01728b89e23d2d5f", func := "hachure/hachurelaw09.CellBack", spec := "cellBack", unfollowed := true, recurses := true, apart := false, narrowed := true }
def CellBackUptoSaid : Prop := cellBackUptoRow.holds Try.pinned (OpenSpec.upto cellBackSpec)

end Rows
end Go.Proofs.Ytlfcgicobhalmaa
