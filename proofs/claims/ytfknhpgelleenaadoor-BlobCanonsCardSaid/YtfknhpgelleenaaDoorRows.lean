/-
  NARROWER THAN 'FOR EVERY INPUT', by the rows' own cells (each row's printed sentence says how): ShapeWraps: loops, laid · ShapeKinds: laid · ShapeEquals: loops, laid · ShapeCopies: loops, laid · WkbEncodes: loops, laid · BlobMakes: loops, laid · WkbCuts: loops, laid · WkbDeep: laid · WkbBack: loops, laid · BlobBack: loops, laid · BlobLies: loops, laid · BlobCanons: laid.
  DERIVED. THE GIVEN ROWS OF THIS SEAT. 12 by the template 'for every input the law returns true; each argument reads behind the call as it read before'; 0 by the template 'total and deterministic' (their statements: YtfknhpgelleenaaDoorTotals.lean).
  GIVEN WITH THE SEED: the statements are not yours to turn. If you find one false, say at which input.
  Laid BY PROGRAM, IN A SANDBOX (cutbox-rows.mjs): the forced cells as the released guide's own fill.sh prints them over the translation 1f41ef71355b2291… (all of the seat's roots in one cut). By AI agents, Wed Nov 11 2026. No macro, syntax, notation, axiom, sorry.
-/
import Derived.Test.YtfknhpgelleenaaDoorChecked
import GoSem.Claim
import GoSem.ClaimJoined
import GoSem.ClaimMapViews
import Derived.JoinedTies
import Derived.KernelRfl
namespace Go.Proofs.YtfknhpgelleenaaDoor
/- THE CELL 'sum', in the pinned program and in every row, IS THE sha256 OF THE DUMP (.gsa) THAT YtfknhpgelleenaaDoorProg.lean LOADS. Nothing in Lean hashes anything: it is a label: what it is worth is what the hold of that sum in a sandbox is worth. -/
noncomputable def Tryd.pinned : Pinned := { name := "ytfknhpgelleenaadoor", sum := "1f41ef71355b2291d4b3d47e811d0c4bb1ce5075c67fc1f48f9a6273a7c1db8d", checked := Tryd.checked }
namespace Rows
def none {H : Type} : Left H := { results := [], args := [] }

/- WHAT THE LISTED PACKAGE-LEVEL VARIABLES READ AS WHEN THE CALL BEGINS. Each datum BY PROGRAM (the guide's laid-datum.mjs) off the statement by which the dump's own 'gosem.cut.vars' lays the variable. In a bare row this is a premise. The card (YtfknhpgelleenaaDoorCards.lean) ties it to the program's text. -/
def laid_hachure_shape_forms {H : Type} : DataW H := .agg [.agg [.lit (.string []), .lit (.int .i64 (-1))], .agg [.lit (.string [80, 79, 73, 78, 84]), .lit (.int .i64 (-1))], .agg [.lit (.string [76, 73, 78, 69, 83, 84, 82, 73, 78, 71]), .lit (.int .i64 (-1))], .agg [.lit (.string [80, 79, 76, 89, 71, 79, 78]), .lit (.int .i64 0)], .agg [.lit (.string [77, 85, 76, 84, 73, 80, 79, 73, 78, 84]), .lit (.int .i64 1)], .agg [.lit (.string [77, 85, 76, 84, 73, 76, 73, 78, 69, 83, 84, 82, 73, 78, 71]), .lit (.int .i64 2)], .agg [.lit (.string [77, 85, 76, 84, 73, 80, 79, 76, 89, 71, 79, 78]), .lit (.int .i64 3)], .agg [.lit (.string [71, 69, 79, 77, 69, 84, 82, 89, 67, 79, 76, 76, 69, 67, 84, 73, 79, 78]), .lit (.int .i64 (-2))]]
def laid_hachure_wkb_nowhere {H : Type} : DataW H := .agg [.lit (.int .i64 (-9223372036854775808)), .lit (.int .i64 (-9223372036854775808))]

/-- 'hachurelaw13.ShapeWraps': WHATEVER THE INPUT: true; the input reads as it did. -/
def shapeWrapsSpec : ChangeSpec := { name := "shapeWraps", fn := fun _ => fun
  | [d] => { results := [.lit (.bool true)], args := [d] }
  | _ => none }
def shapeWrapsRow : OpenClaim := { program := "ytfknhpgelleenaadoor", sum := "1f41ef71355b2291d4b3d47e811d0c4bb1ce5075c67fc1f48f9a6273a7c1db8d", func := "hachure/hachurelaw13.ShapeWraps", spec := "shapeWraps", unfollowed := true, recurses := true, named := ["hachure/shape.forms"], loops := true, apart := false, laid := [("hachure/shape.forms", laid_hachure_shape_forms)] }
def ShapeWrapsSaid : Prop := shapeWrapsRow.holds Tryd.pinned (OpenSpec.ofChange shapeWrapsSpec)

/-- ITS FALSE NEIGHBOUR: 'it returns false'. Refute it at one input. -/
def shapeWrapsWrong : ChangeSpec := { name := "shapeWraps", fn := fun _ => fun
  | [d] => { results := [.lit (.bool false)], args := [d] }
  | _ => none }
def ShapeWrapsWrongFalsely : Prop := shapeWrapsRow.holds Tryd.pinned (OpenSpec.ofChange shapeWrapsWrong)

/-- 'hachurelaw13.ShapeKinds': WHATEVER THE INPUT: true; the input reads as it did. -/
def shapeKindsSpec : ChangeSpec := { name := "shapeKinds", fn := fun _ => fun
  | [d1, d2] => { results := [.lit (.bool true)], args := [d1, d2] }
  | _ => none }
def shapeKindsRow : OpenClaim := { program := "ytfknhpgelleenaadoor", sum := "1f41ef71355b2291d4b3d47e811d0c4bb1ce5075c67fc1f48f9a6273a7c1db8d", func := "hachure/hachurelaw13.ShapeKinds", spec := "shapeKinds", unfollowed := true, recurses := true, named := ["hachure/shape.forms"], apart := false, laid := [("hachure/shape.forms", laid_hachure_shape_forms)] }
def ShapeKindsSaid : Prop := shapeKindsRow.holds Tryd.pinned (OpenSpec.ofChange shapeKindsSpec)

/-- ITS FALSE NEIGHBOUR: 'it returns false'. Refute it at one input. -/
def shapeKindsWrong : ChangeSpec := { name := "shapeKinds", fn := fun _ => fun
  | [d1, d2] => { results := [.lit (.bool false)], args := [d1, d2] }
  | _ => none }
def ShapeKindsWrongFalsely : Prop := shapeKindsRow.holds Tryd.pinned (OpenSpec.ofChange shapeKindsWrong)

/-- 'hachurelaw13.ShapeEquals': WHATEVER THE INPUT: true; the input reads as it did. -/
def shapeEqualsSpec : ChangeSpec := { name := "shapeEquals", fn := fun _ => fun
  | [d1, d2, d3] => { results := [.lit (.bool true)], args := [d1, d2, d3] }
  | _ => none }
def shapeEqualsRow : OpenClaim := { program := "ytfknhpgelleenaadoor", sum := "1f41ef71355b2291d4b3d47e811d0c4bb1ce5075c67fc1f48f9a6273a7c1db8d", func := "hachure/hachurelaw13.ShapeEquals", spec := "shapeEquals", unfollowed := true, recurses := true, named := ["hachure/shape.forms"], loops := true, apart := false, laid := [("hachure/shape.forms", laid_hachure_shape_forms)] }
def ShapeEqualsSaid : Prop := shapeEqualsRow.holds Tryd.pinned (OpenSpec.ofChange shapeEqualsSpec)

/-- ITS FALSE NEIGHBOUR: 'it returns false'. Refute it at one input. -/
def shapeEqualsWrong : ChangeSpec := { name := "shapeEquals", fn := fun _ => fun
  | [d1, d2, d3] => { results := [.lit (.bool false)], args := [d1, d2, d3] }
  | _ => none }
def ShapeEqualsWrongFalsely : Prop := shapeEqualsRow.holds Tryd.pinned (OpenSpec.ofChange shapeEqualsWrong)

/-- 'hachurelaw13.ShapeCopies': WHATEVER THE INPUT: true; the input reads as it did. -/
def shapeCopiesSpec : ChangeSpec := { name := "shapeCopies", fn := fun _ => fun
  | [d1, d2] => { results := [.lit (.bool true)], args := [d1, d2] }
  | _ => none }
def shapeCopiesRow : OpenClaim := { program := "ytfknhpgelleenaadoor", sum := "1f41ef71355b2291d4b3d47e811d0c4bb1ce5075c67fc1f48f9a6273a7c1db8d", func := "hachure/hachurelaw13.ShapeCopies", spec := "shapeCopies", unfollowed := true, recurses := true, named := ["hachure/shape.forms"], loops := true, apart := false, laid := [("hachure/shape.forms", laid_hachure_shape_forms)] }
def ShapeCopiesSaid : Prop := shapeCopiesRow.holds Tryd.pinned (OpenSpec.ofChange shapeCopiesSpec)

/-- ITS FALSE NEIGHBOUR: 'it returns false'. Refute it at one input. -/
def shapeCopiesWrong : ChangeSpec := { name := "shapeCopies", fn := fun _ => fun
  | [d1, d2] => { results := [.lit (.bool false)], args := [d1, d2] }
  | _ => none }
def ShapeCopiesWrongFalsely : Prop := shapeCopiesRow.holds Tryd.pinned (OpenSpec.ofChange shapeCopiesWrong)

/-- 'hachurelaw14.WkbEncodes': WHATEVER THE INPUT: true; the input reads as it did. -/
def wkbEncodesSpec : ChangeSpec := { name := "wkbEncodes", fn := fun _ => fun
  | [d1, d2] => { results := [.lit (.bool true)], args := [d1, d2] }
  | _ => none }
def wkbEncodesRow : OpenClaim := { program := "ytfknhpgelleenaadoor", sum := "1f41ef71355b2291d4b3d47e811d0c4bb1ce5075c67fc1f48f9a6273a7c1db8d", func := "hachure/hachurelaw14.WkbEncodes", spec := "wkbEncodes", unfollowed := true, recurses := true, named := ["hachure/shape.forms", "hachure/wkb.nowhere"], loops := true, apart := false, laid := [("hachure/shape.forms", laid_hachure_shape_forms), ("hachure/wkb.nowhere", laid_hachure_wkb_nowhere)] }
def WkbEncodesSaid : Prop := wkbEncodesRow.holds Tryd.pinned (OpenSpec.ofChange wkbEncodesSpec)

/-- ITS FALSE NEIGHBOUR: 'it returns false'. Refute it at one input. -/
def wkbEncodesWrong : ChangeSpec := { name := "wkbEncodes", fn := fun _ => fun
  | [d1, d2] => { results := [.lit (.bool false)], args := [d1, d2] }
  | _ => none }
def WkbEncodesWrongFalsely : Prop := wkbEncodesRow.holds Tryd.pinned (OpenSpec.ofChange wkbEncodesWrong)

/-- 'hachurelaw16.BlobMakes': WHATEVER THE INPUT: true; the input reads as it did. -/
def blobMakesSpec : ChangeSpec := { name := "blobMakes", fn := fun _ => fun
  | [d1, d2] => { results := [.lit (.bool true)], args := [d1, d2] }
  | _ => none }
def blobMakesRow : OpenClaim := { program := "ytfknhpgelleenaadoor", sum := "1f41ef71355b2291d4b3d47e811d0c4bb1ce5075c67fc1f48f9a6273a7c1db8d", func := "hachure/hachurelaw16.BlobMakes", spec := "blobMakes", unfollowed := true, recurses := true, named := ["hachure/shape.forms", "hachure/wkb.nowhere"], loops := true, apart := false, laid := [("hachure/shape.forms", laid_hachure_shape_forms), ("hachure/wkb.nowhere", laid_hachure_wkb_nowhere)] }
def BlobMakesSaid : Prop := blobMakesRow.holds Tryd.pinned (OpenSpec.ofChange blobMakesSpec)

/-- ITS FALSE NEIGHBOUR: 'it returns false'. Refute it at one input. -/
def blobMakesWrong : ChangeSpec := { name := "blobMakes", fn := fun _ => fun
  | [d1, d2] => { results := [.lit (.bool false)], args := [d1, d2] }
  | _ => none }
def BlobMakesWrongFalsely : Prop := blobMakesRow.holds Tryd.pinned (OpenSpec.ofChange blobMakesWrong)

/-- 'hachurelaw14.WkbCuts': WHATEVER THE INPUT: true; the input reads as it did. -/
def wkbCutsSpec : ChangeSpec := { name := "wkbCuts", fn := fun _ => fun
  | [d1, d2, d3] => { results := [.lit (.bool true)], args := [d1, d2, d3] }
  | _ => none }
def wkbCutsRow : OpenClaim := { program := "ytfknhpgelleenaadoor", sum := "1f41ef71355b2291d4b3d47e811d0c4bb1ce5075c67fc1f48f9a6273a7c1db8d", func := "hachure/hachurelaw14.WkbCuts", spec := "wkbCuts", unfollowed := true, recurses := true, named := ["hachure/shape.forms", "hachure/wkb.nowhere"], loops := true, apart := false, laid := [("hachure/shape.forms", laid_hachure_shape_forms), ("hachure/wkb.nowhere", laid_hachure_wkb_nowhere)] }
def WkbCutsSaid : Prop := wkbCutsRow.holds Tryd.pinned (OpenSpec.ofChange wkbCutsSpec)

/-- ITS FALSE NEIGHBOUR: 'it returns false'. Refute it at one input. -/
def wkbCutsWrong : ChangeSpec := { name := "wkbCuts", fn := fun _ => fun
  | [d1, d2, d3] => { results := [.lit (.bool false)], args := [d1, d2, d3] }
  | _ => none }
def WkbCutsWrongFalsely : Prop := wkbCutsRow.holds Tryd.pinned (OpenSpec.ofChange wkbCutsWrong)

/-- 'hachurelaw14.WkbDeep': WHATEVER THE INPUT: true; the input reads as it did. -/
def wkbDeepSpec : ChangeSpec := { name := "wkbDeep", fn := fun _ => fun
  | [d1, d2] => { results := [.lit (.bool true)], args := [d1, d2] }
  | _ => none }
def wkbDeepRow : OpenClaim := { program := "ytfknhpgelleenaadoor", sum := "1f41ef71355b2291d4b3d47e811d0c4bb1ce5075c67fc1f48f9a6273a7c1db8d", func := "hachure/hachurelaw14.WkbDeep", spec := "wkbDeep", unfollowed := true, recurses := true, named := ["hachure/wkb.nowhere", "hachure/shape.forms"], apart := false, laid := [("hachure/shape.forms", laid_hachure_shape_forms), ("hachure/wkb.nowhere", laid_hachure_wkb_nowhere)] }
def WkbDeepSaid : Prop := wkbDeepRow.holds Tryd.pinned (OpenSpec.ofChange wkbDeepSpec)

/-- ITS FALSE NEIGHBOUR: 'it returns false'. Refute it at one input. -/
def wkbDeepWrong : ChangeSpec := { name := "wkbDeep", fn := fun _ => fun
  | [d1, d2] => { results := [.lit (.bool false)], args := [d1, d2] }
  | _ => none }
def WkbDeepWrongFalsely : Prop := wkbDeepRow.holds Tryd.pinned (OpenSpec.ofChange wkbDeepWrong)

/-- 'hachurelaw14.WkbBack': WHATEVER THE INPUT: true; the input reads as it did. -/
def wkbBackSpec : ChangeSpec := { name := "wkbBack", fn := fun _ => fun
  | [d1, d2, d3] => { results := [.lit (.bool true)], args := [d1, d2, d3] }
  | _ => none }
def wkbBackRow : OpenClaim := { program := "ytfknhpgelleenaadoor", sum := "1f41ef71355b2291d4b3d47e811d0c4bb1ce5075c67fc1f48f9a6273a7c1db8d", func := "hachure/hachurelaw14.WkbBack", spec := "wkbBack", unfollowed := true, recurses := true, named := ["hachure/shape.forms", "hachure/wkb.nowhere"], loops := true, apart := false, laid := [("hachure/shape.forms", laid_hachure_shape_forms), ("hachure/wkb.nowhere", laid_hachure_wkb_nowhere)] }
def WkbBackSaid : Prop := wkbBackRow.holds Tryd.pinned (OpenSpec.ofChange wkbBackSpec)

/-- ITS FALSE NEIGHBOUR: 'it returns false'. Refute it at one input. -/
def wkbBackWrong : ChangeSpec := { name := "wkbBack", fn := fun _ => fun
  | [d1, d2, d3] => { results := [.lit (.bool false)], args := [d1, d2, d3] }
  | _ => none }
def WkbBackWrongFalsely : Prop := wkbBackRow.holds Tryd.pinned (OpenSpec.ofChange wkbBackWrong)

/-- 'hachurelaw16.BlobBack': WHATEVER THE INPUT: true; the input reads as it did. -/
def blobBackSpec : ChangeSpec := { name := "blobBack", fn := fun _ => fun
  | [d1, d2, d3] => { results := [.lit (.bool true)], args := [d1, d2, d3] }
  | _ => none }
def blobBackRow : OpenClaim := { program := "ytfknhpgelleenaadoor", sum := "1f41ef71355b2291d4b3d47e811d0c4bb1ce5075c67fc1f48f9a6273a7c1db8d", func := "hachure/hachurelaw16.BlobBack", spec := "blobBack", unfollowed := true, recurses := true, named := ["hachure/shape.forms", "hachure/wkb.nowhere"], loops := true, apart := false, laid := [("hachure/shape.forms", laid_hachure_shape_forms), ("hachure/wkb.nowhere", laid_hachure_wkb_nowhere)] }
def BlobBackSaid : Prop := blobBackRow.holds Tryd.pinned (OpenSpec.ofChange blobBackSpec)

/-- ITS FALSE NEIGHBOUR: 'it returns false'. Refute it at one input. -/
def blobBackWrong : ChangeSpec := { name := "blobBack", fn := fun _ => fun
  | [d1, d2, d3] => { results := [.lit (.bool false)], args := [d1, d2, d3] }
  | _ => none }
def BlobBackWrongFalsely : Prop := blobBackRow.holds Tryd.pinned (OpenSpec.ofChange blobBackWrong)

/-- 'hachurelaw16.BlobLies': WHATEVER THE INPUT: true; the input reads as it did. -/
def blobLiesSpec : ChangeSpec := { name := "blobLies", fn := fun _ => fun
  | [d1, d2, d3] => { results := [.lit (.bool true)], args := [d1, d2, d3] }
  | _ => none }
def blobLiesRow : OpenClaim := { program := "ytfknhpgelleenaadoor", sum := "1f41ef71355b2291d4b3d47e811d0c4bb1ce5075c67fc1f48f9a6273a7c1db8d", func := "hachure/hachurelaw16.BlobLies", spec := "blobLies", unfollowed := true, recurses := true, named := ["hachure/shape.forms", "hachure/wkb.nowhere"], loops := true, apart := false, laid := [("hachure/shape.forms", laid_hachure_shape_forms), ("hachure/wkb.nowhere", laid_hachure_wkb_nowhere)] }
def BlobLiesSaid : Prop := blobLiesRow.holds Tryd.pinned (OpenSpec.ofChange blobLiesSpec)

/-- ITS FALSE NEIGHBOUR: 'it returns false'. Refute it at one input. -/
def blobLiesWrong : ChangeSpec := { name := "blobLies", fn := fun _ => fun
  | [d1, d2, d3] => { results := [.lit (.bool false)], args := [d1, d2, d3] }
  | _ => none }
def BlobLiesWrongFalsely : Prop := blobLiesRow.holds Tryd.pinned (OpenSpec.ofChange blobLiesWrong)

/-- 'hachurelaw16.BlobCanons': WHATEVER THE INPUT: true; the input reads as it did. -/
def blobCanonsSpec : ChangeSpec := { name := "blobCanons", fn := fun _ => fun
  | [d1, d2] => { results := [.lit (.bool true)], args := [d1, d2] }
  | _ => none }
def blobCanonsRow : OpenClaim := { program := "ytfknhpgelleenaadoor", sum := "1f41ef71355b2291d4b3d47e811d0c4bb1ce5075c67fc1f48f9a6273a7c1db8d", func := "hachure/hachurelaw16.BlobCanons", spec := "blobCanons", unfollowed := true, recurses := true, named := ["hachure/shape.forms", "hachure/wkb.nowhere"], apart := false, laid := [("hachure/shape.forms", laid_hachure_shape_forms), ("hachure/wkb.nowhere", laid_hachure_wkb_nowhere)] }
def BlobCanonsSaid : Prop := blobCanonsRow.holds Tryd.pinned (OpenSpec.ofChange blobCanonsSpec)

/-- ITS FALSE NEIGHBOUR: 'it returns false'. Refute it at one input. -/
def blobCanonsWrong : ChangeSpec := { name := "blobCanons", fn := fun _ => fun
  | [d1, d2] => { results := [.lit (.bool false)], args := [d1, d2] }
  | _ => none }
def BlobCanonsWrongFalsely : Prop := blobCanonsRow.holds Tryd.pinned (OpenSpec.ofChange blobCanonsWrong)

/- THE SECOND FORM. 'bulk': how many values and letters a reading holds, each counted each time it is reached (what is shared counts as often as it is met; a slice's spare places count too). A statement '..UptoSaid' is the law's where the arguments, and the package variables that the reading takes, are together of bulk at most 1048576: NARROWER than '..Said'. Prove '..Said' where nothing that the law and all that it calls make is longer than what came in: it says more and counts as full. Else prove '..UptoSaid'. A law counts once. -/
mutual
def uptoBulk {H : Type} : DataW H → Nat
  | .lit (.string bytes) => bytes.length + 1
  | .lit _ => 1
  | .nil => 1
  | .ptr d => uptoBulk d + 1
  | .slice elems spare => uptoBulkAll elems + uptoBulkAll spare + 1
  | .agg parts => uptoBulkAll parts + 1
  | .iface _ d => uptoBulk d + 1
  | .map entries => uptoBulkEntries entries + 1
  | .held _ => 1
def uptoBulkAll {H : Type} : List (DataW H) → Nat
  | [] => 0
  | d :: r => uptoBulk d + uptoBulkAll r
def uptoBulkEntries {H : Type} : List (Lit × DataW H) → Nat
  | [] => 0
  | x :: r => uptoBulkEntry x + uptoBulkEntries r
def uptoBulkEntry {H : Type} : Lit × DataW H → Nat
  | (.string bytes, d) => bytes.length + uptoBulk d + 1
  | (_, d) => uptoBulk d + 1
 end
def uptoSmall : (H : Type) → List (DataW H) → Bool := fun _ ds => decide (uptoBulkAll ds ≤ 1048576)
def OpenSpec.upto (s : _root_.Go.ChangeSpec) : _root_.Go.OpenSpec := { _root_.Go.OpenSpec.ofChange s with cond := some uptoSmall }

/-- 'hachurelaw13.ShapeWraps', WHERE WHAT IT READS IS OF BULK AT MOST 1048576: true; the input reads as it did. -/
def shapeWrapsUptoRow : OpenClaim := { program := "ytfknhpgelleenaadoor", sum := "1f41ef71355b2291d4b3d47e811d0c4bb1ce5075c67fc1f48f9a6273a7c1db8d", func := "hachure/hachurelaw13.ShapeWraps", spec := "shapeWraps", unfollowed := true, recurses := true, named := ["hachure/shape.forms"], loops := true, apart := false, laid := [("hachure/shape.forms", laid_hachure_shape_forms)], narrowed := true }
def ShapeWrapsUptoSaid : Prop := shapeWrapsUptoRow.holds Tryd.pinned (OpenSpec.upto shapeWrapsSpec)

/-- 'hachurelaw13.ShapeKinds', WHERE WHAT IT READS IS OF BULK AT MOST 1048576: true; the input reads as it did. -/
def shapeKindsUptoRow : OpenClaim := { program := "ytfknhpgelleenaadoor", sum := "1f41ef71355b2291d4b3d47e811d0c4bb1ce5075c67fc1f48f9a6273a7c1db8d", func := "hachure/hachurelaw13.ShapeKinds", spec := "shapeKinds", unfollowed := true, recurses := true, named := ["hachure/shape.forms"], apart := false, laid := [("hachure/shape.forms", laid_hachure_shape_forms)], narrowed := true }
def ShapeKindsUptoSaid : Prop := shapeKindsUptoRow.holds Tryd.pinned (OpenSpec.upto shapeKindsSpec)

/-- 'hachurelaw13.ShapeEquals', WHERE WHAT IT READS IS OF BULK AT MOST 1048576: true; the input reads as it did. -/
def shapeEqualsUptoRow : OpenClaim := { program := "ytfknhpgelleenaadoor", sum := "1f41ef71355b2291d4b3d47e811d0c4bb1ce5075c67fc1f48f9a6273a7c1db8d", func := "hachure/hachurelaw13.ShapeEquals", spec := "shapeEquals", unfollowed := true, recurses := true, named := ["hachure/shape.forms"], loops := true, apart := false, laid := [("hachure/shape.forms", laid_hachure_shape_forms)], narrowed := true }
def ShapeEqualsUptoSaid : Prop := shapeEqualsUptoRow.holds Tryd.pinned (OpenSpec.upto shapeEqualsSpec)

/-- 'hachurelaw13.ShapeCopies', WHERE WHAT IT READS IS OF BULK AT MOST 1048576: true; the input reads as it did. -/
def shapeCopiesUptoRow : OpenClaim := { program := "ytfknhpgelleenaadoor", sum := "1f41ef71355b2291d4b3d47e811d0c4bb1ce5075c67fc1f48f9a6273a7c1db8d", func := "hachure/hachurelaw13.ShapeCopies", spec := "shapeCopies", unfollowed := true, recurses := true, named := ["hachure/shape.forms"], loops := true, apart := false, laid := [("hachure/shape.forms", laid_hachure_shape_forms)], narrowed := true }
def ShapeCopiesUptoSaid : Prop := shapeCopiesUptoRow.holds Tryd.pinned (OpenSpec.upto shapeCopiesSpec)

/-- 'hachurelaw14.WkbEncodes', WHERE WHAT IT READS IS OF BULK AT MOST 1048576: true; the input reads as it did. -/
def wkbEncodesUptoRow : OpenClaim := { program := "ytfknhpgelleenaadoor", sum := "1f41ef71355b2291d4b3d47e811d0c4bb1ce5075c67fc1f48f9a6273a7c1db8d", func := "hachure/hachurelaw14.WkbEncodes", spec := "wkbEncodes", unfollowed := true, recurses := true, named := ["hachure/shape.forms", "hachure/wkb.nowhere"], loops := true, apart := false, laid := [("hachure/shape.forms", laid_hachure_shape_forms), ("hachure/wkb.nowhere", laid_hachure_wkb_nowhere)], narrowed := true }
def WkbEncodesUptoSaid : Prop := wkbEncodesUptoRow.holds Tryd.pinned (OpenSpec.upto wkbEncodesSpec)

/-- 'hachurelaw16.BlobMakes', WHERE WHAT IT READS IS OF BULK AT MOST 1048576: true; the input reads as it did. -/
def blobMakesUptoRow : OpenClaim := { program := "ytfknhpgelleenaadoor", sum := "1f41ef71355b2291d4b3d47e811d0c4bb1ce5075c67fc1f48f9a6273a7c1db8d", func := "hachure/hachurelaw16.BlobMakes", spec := "blobMakes", unfollowed := true, recurses := true, named := ["hachure/shape.forms", "hachure/wkb.nowhere"], loops := true, apart := false, laid := [("hachure/shape.forms", laid_hachure_shape_forms), ("hachure/wkb.nowhere", laid_hachure_wkb_nowhere)], narrowed := true }
def BlobMakesUptoSaid : Prop := blobMakesUptoRow.holds Tryd.pinned (OpenSpec.upto blobMakesSpec)

/-- 'hachurelaw14.WkbCuts', WHERE WHAT IT READS IS OF BULK AT MOST 1048576: true; the input reads as it did. -/
def wkbCutsUptoRow : OpenClaim := { program := "ytfknhpgelleenaadoor", sum := "1f41ef71355b2291d4b3d47e811d0c4bb1ce5075c67fc1f48f9a6273a7c1db8d", func := "hachure/hachurelaw14.WkbCuts", spec := "wkbCuts", unfollowed := true, recurses := true, named := ["hachure/shape.forms", "hachure/wkb.nowhere"], loops := true, apart := false, laid := [("hachure/shape.forms", laid_hachure_shape_forms), ("hachure/wkb.nowhere", laid_hachure_wkb_nowhere)], narrowed := true }
def WkbCutsUptoSaid : Prop := wkbCutsUptoRow.holds Tryd.pinned (OpenSpec.upto wkbCutsSpec)

/-- 'hachurelaw14.WkbDeep', WHERE WHAT IT READS IS OF BULK AT MOST 1048576: true; the input reads as it did. -/
def wkbDeepUptoRow : OpenClaim := { program := "ytfknhpgelleenaadoor", sum := "1f41ef71355b2291d4b3d47e811d0c4bb1ce5075c67fc1f48f9a6273a7c1db8d", func := "hachure/hachurelaw14.WkbDeep", spec := "wkbDeep", unfollowed := true, recurses := true, named := ["hachure/wkb.nowhere", "hachure/shape.forms"], apart := false, laid := [("hachure/shape.forms", laid_hachure_shape_forms), ("hachure/wkb.nowhere", laid_hachure_wkb_nowhere)], narrowed := true }
def WkbDeepUptoSaid : Prop := wkbDeepUptoRow.holds Tryd.pinned (OpenSpec.upto wkbDeepSpec)

/-- 'hachurelaw14.WkbBack', WHERE WHAT IT READS IS OF BULK AT MOST 1048576: true; the input reads as it did. -/
def wkbBackUptoRow : OpenClaim := { program := "ytfknhpgelleenaadoor", sum := "1f41ef71355b2291d4b3d47e811d0c4bb1ce5075c67fc1f48f9a6273a7c1db8d", func := "hachure/hachurelaw14.WkbBack", spec := "wkbBack", unfollowed := true, recurses := true, named := ["hachure/shape.forms", "hachure/wkb.nowhere"], loops := true, apart := false, laid := [("hachure/shape.forms", laid_hachure_shape_forms), ("hachure/wkb.nowhere", laid_hachure_wkb_nowhere)], narrowed := true }
def WkbBackUptoSaid : Prop := wkbBackUptoRow.holds Tryd.pinned (OpenSpec.upto wkbBackSpec)

/-- 'hachurelaw16.BlobBack', WHERE WHAT IT READS IS OF BULK AT MOST 1048576: true; the input reads as it did. -/
def blobBackUptoRow : OpenClaim := { program := "ytfknhpgelleenaadoor", sum := "1f41ef71355b2291d4b3d47e811d0c4bb1ce5075c67fc1f48f9a6273a7c1db8d", func := "hachure/hachurelaw16.BlobBack", spec := "blobBack", unfollowed := true, recurses := true, named := ["hachure/shape.forms", "hachure/wkb.nowhere"], loops := true, apart := false, laid := [("hachure/shape.forms", laid_hachure_shape_forms), ("hachure/wkb.nowhere", laid_hachure_wkb_nowhere)], narrowed := true }
def BlobBackUptoSaid : Prop := blobBackUptoRow.holds Tryd.pinned (OpenSpec.upto blobBackSpec)

/-- 'hachurelaw16.BlobLies', WHERE WHAT IT READS IS OF BULK AT MOST 1048576: true; the input reads as it did. -/
def blobLiesUptoRow : OpenClaim := { program := "ytfknhpgelleenaadoor", sum := "1f41ef71355b2291d4b3d47e811d0c4bb1ce5075c67fc1f48f9a6273a7c1db8d", func := "hachure/hachurelaw16.BlobLies", spec := "blobLies", unfollowed := true, recurses := true, named := ["hachure/shape.forms", "hachure/wkb.nowhere"], loops := true, apart := false, laid := [("hachure/shape.forms", laid_hachure_shape_forms), ("hachure/wkb.nowhere", laid_hachure_wkb_nowhere)], narrowed := true }
def BlobLiesUptoSaid : Prop := blobLiesUptoRow.holds Tryd.pinned (OpenSpec.upto blobLiesSpec)

/-- 'hachurelaw16.BlobCanons', WHERE WHAT IT READS IS OF BULK AT MOST 1048576: true; the input reads as it did. -/
def blobCanonsUptoRow : OpenClaim := { program := "ytfknhpgelleenaadoor", sum := "1f41ef71355b2291d4b3d47e811d0c4bb1ce5075c67fc1f48f9a6273a7c1db8d", func := "hachure/hachurelaw16.BlobCanons", spec := "blobCanons", unfollowed := true, recurses := true, named := ["hachure/shape.forms", "hachure/wkb.nowhere"], apart := false, laid := [("hachure/shape.forms", laid_hachure_shape_forms), ("hachure/wkb.nowhere", laid_hachure_wkb_nowhere)], narrowed := true }
def BlobCanonsUptoSaid : Prop := blobCanonsUptoRow.holds Tryd.pinned (OpenSpec.upto blobCanonsSpec)

end Rows
end Go.Proofs.YtfknhpgelleenaaDoor
