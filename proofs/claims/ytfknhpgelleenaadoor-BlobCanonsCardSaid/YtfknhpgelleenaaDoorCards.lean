/-
  DERIVED. GIVEN WITH THE SEED: THE CARDS: each row of YtfknhpgelleenaaDoorRows.lean that lists a variable, with what it lists TIED to the program's text (the seventh form; the later family's looks); each row that meets fmt, with fmt's text TOLD by the authors' own Lean function (tested against real Go, not proved from fmt's source: count such statements apart). THE CARD IS WHAT COUNTS. Prove the row's statement (the work); the ties are given (YtfknhpgelleenaaDoorTie.lean); close each card by the builder's one call (the guide's Derived/Test/ToyasCard.lean, 'card_holds'). Laid BY PROGRAM, IN A SANDBOX (cutbox-door.mjs). By AI agents, Wed Nov 11 2026. No macro, syntax, notation, axiom, sorry.
-/
import Derived.Test.YtfknhpgelleenaaDoorRows
import GoSem.ClaimSeven
namespace Go.Proofs.YtfknhpgelleenaaDoor
namespace Rows

/-- THE TIED CARD OF 'hachurelaw13.ShapeWraps'. -/
def shapeWrapsCard : Claim7 := { stood := { row := shapeWrapsRow, standIns := [], harness := (true, "fb9c79e342d7b64b37e47c6895211a8de9ad558d65cf6289a121672f66989b8c"), looks := true }, kinds := [], alts := [], laidByText := true, laidKinds := [.data], laidTests := true, laidLooks := .later }
def ShapeWrapsCardSaid : Prop := Claim7.holds Tryd.pinned (.plain (OpenSpec.ofChange shapeWrapsSpec)) shapeWrapsCard

/-- THE TIED CARD OF 'hachurelaw13.ShapeKinds'. -/
def shapeKindsCard : Claim7 := { stood := { row := shapeKindsRow, standIns := [], harness := (true, "fb9c79e342d7b64b37e47c6895211a8de9ad558d65cf6289a121672f66989b8c"), looks := true }, kinds := [], alts := [], laidByText := true, laidKinds := [.data], laidTests := true, laidLooks := .later }
def ShapeKindsCardSaid : Prop := Claim7.holds Tryd.pinned (.plain (OpenSpec.ofChange shapeKindsSpec)) shapeKindsCard

/-- THE TIED CARD OF 'hachurelaw13.ShapeEquals'. -/
def shapeEqualsCard : Claim7 := { stood := { row := shapeEqualsRow, standIns := [], harness := (true, "fb9c79e342d7b64b37e47c6895211a8de9ad558d65cf6289a121672f66989b8c"), looks := true }, kinds := [], alts := [], laidByText := true, laidKinds := [.data], laidTests := true, laidLooks := .later }
def ShapeEqualsCardSaid : Prop := Claim7.holds Tryd.pinned (.plain (OpenSpec.ofChange shapeEqualsSpec)) shapeEqualsCard

/-- THE TIED CARD OF 'hachurelaw13.ShapeCopies'. -/
def shapeCopiesCard : Claim7 := { stood := { row := shapeCopiesRow, standIns := [], harness := (true, "fb9c79e342d7b64b37e47c6895211a8de9ad558d65cf6289a121672f66989b8c"), looks := true }, kinds := [], alts := [], laidByText := true, laidKinds := [.data], laidTests := true, laidLooks := .later }
def ShapeCopiesCardSaid : Prop := Claim7.holds Tryd.pinned (.plain (OpenSpec.ofChange shapeCopiesSpec)) shapeCopiesCard

/-- THE TIED CARD OF 'hachurelaw14.WkbEncodes'. -/
def wkbEncodesCard : Claim7 := { stood := { row := wkbEncodesRow, standIns := [], harness := (true, "fb9c79e342d7b64b37e47c6895211a8de9ad558d65cf6289a121672f66989b8c"), looks := true }, kinds := [], alts := [], laidByText := true, laidKinds := [.data, .data], laidTests := true, laidLooks := .later }
def WkbEncodesCardSaid : Prop := Claim7.holds Tryd.pinned (.plain (OpenSpec.ofChange wkbEncodesSpec)) wkbEncodesCard

/-- THE TIED CARD OF 'hachurelaw16.BlobMakes'. -/
def blobMakesCard : Claim7 := { stood := { row := blobMakesRow, standIns := [], harness := (true, "fb9c79e342d7b64b37e47c6895211a8de9ad558d65cf6289a121672f66989b8c"), looks := true }, kinds := [], alts := [], laidByText := true, laidKinds := [.data, .data], laidTests := true, laidLooks := .later }
def BlobMakesCardSaid : Prop := Claim7.holds Tryd.pinned (.plain (OpenSpec.ofChange blobMakesSpec)) blobMakesCard

/-- THE TIED CARD OF 'hachurelaw14.WkbCuts'. -/
def wkbCutsCard : Claim7 := { stood := { row := wkbCutsRow, standIns := [], harness := (true, "fb9c79e342d7b64b37e47c6895211a8de9ad558d65cf6289a121672f66989b8c"), looks := true }, kinds := [], alts := [], laidByText := true, laidKinds := [.data, .data], laidTests := true, laidLooks := .later }
def WkbCutsCardSaid : Prop := Claim7.holds Tryd.pinned (.plain (OpenSpec.ofChange wkbCutsSpec)) wkbCutsCard

/-- THE TIED CARD OF 'hachurelaw14.WkbDeep'. -/
def wkbDeepCard : Claim7 := { stood := { row := wkbDeepRow, standIns := [], harness := (true, "fb9c79e342d7b64b37e47c6895211a8de9ad558d65cf6289a121672f66989b8c"), looks := true }, kinds := [], alts := [], laidByText := true, laidKinds := [.data, .data], laidTests := true, laidLooks := .later }
def WkbDeepCardSaid : Prop := Claim7.holds Tryd.pinned (.plain (OpenSpec.ofChange wkbDeepSpec)) wkbDeepCard

/-- THE TIED CARD OF 'hachurelaw14.WkbBack'. -/
def wkbBackCard : Claim7 := { stood := { row := wkbBackRow, standIns := [], harness := (true, "fb9c79e342d7b64b37e47c6895211a8de9ad558d65cf6289a121672f66989b8c"), looks := true }, kinds := [], alts := [], laidByText := true, laidKinds := [.data, .data], laidTests := true, laidLooks := .later }
def WkbBackCardSaid : Prop := Claim7.holds Tryd.pinned (.plain (OpenSpec.ofChange wkbBackSpec)) wkbBackCard

/-- THE TIED CARD OF 'hachurelaw16.BlobBack'. -/
def blobBackCard : Claim7 := { stood := { row := blobBackRow, standIns := [], harness := (true, "fb9c79e342d7b64b37e47c6895211a8de9ad558d65cf6289a121672f66989b8c"), looks := true }, kinds := [], alts := [], laidByText := true, laidKinds := [.data, .data], laidTests := true, laidLooks := .later }
def BlobBackCardSaid : Prop := Claim7.holds Tryd.pinned (.plain (OpenSpec.ofChange blobBackSpec)) blobBackCard

/-- THE TIED CARD OF 'hachurelaw16.BlobLies'. -/
def blobLiesCard : Claim7 := { stood := { row := blobLiesRow, standIns := [], harness := (true, "fb9c79e342d7b64b37e47c6895211a8de9ad558d65cf6289a121672f66989b8c"), looks := true }, kinds := [], alts := [], laidByText := true, laidKinds := [.data, .data], laidTests := true, laidLooks := .later }
def BlobLiesCardSaid : Prop := Claim7.holds Tryd.pinned (.plain (OpenSpec.ofChange blobLiesSpec)) blobLiesCard

/-- THE TIED CARD OF 'hachurelaw16.BlobCanons'. -/
def blobCanonsCard : Claim7 := { stood := { row := blobCanonsRow, standIns := [], harness := (true, "fb9c79e342d7b64b37e47c6895211a8de9ad558d65cf6289a121672f66989b8c"), looks := true }, kinds := [], alts := [], laidByText := true, laidKinds := [.data, .data], laidTests := true, laidLooks := .later }
def BlobCanonsCardSaid : Prop := Claim7.holds Tryd.pinned (.plain (OpenSpec.ofChange blobCanonsSpec)) blobCanonsCard

/-- THE SECOND FORM's CARD OF 'hachurelaw13.ShapeWraps'. -/
def shapeWrapsUptoCard : Claim7 := { stood := { row := shapeWrapsUptoRow, standIns := [], harness := (true, "fb9c79e342d7b64b37e47c6895211a8de9ad558d65cf6289a121672f66989b8c"), looks := true }, kinds := [], alts := [], laidByText := true, laidKinds := [.data], laidTests := true, laidLooks := .later }
def ShapeWrapsUptoCardSaid : Prop := Claim7.holds Tryd.pinned (.plain (OpenSpec.upto shapeWrapsSpec)) shapeWrapsUptoCard

/-- THE SECOND FORM's CARD OF 'hachurelaw13.ShapeKinds'. -/
def shapeKindsUptoCard : Claim7 := { stood := { row := shapeKindsUptoRow, standIns := [], harness := (true, "fb9c79e342d7b64b37e47c6895211a8de9ad558d65cf6289a121672f66989b8c"), looks := true }, kinds := [], alts := [], laidByText := true, laidKinds := [.data], laidTests := true, laidLooks := .later }
def ShapeKindsUptoCardSaid : Prop := Claim7.holds Tryd.pinned (.plain (OpenSpec.upto shapeKindsSpec)) shapeKindsUptoCard

/-- THE SECOND FORM's CARD OF 'hachurelaw13.ShapeEquals'. -/
def shapeEqualsUptoCard : Claim7 := { stood := { row := shapeEqualsUptoRow, standIns := [], harness := (true, "fb9c79e342d7b64b37e47c6895211a8de9ad558d65cf6289a121672f66989b8c"), looks := true }, kinds := [], alts := [], laidByText := true, laidKinds := [.data], laidTests := true, laidLooks := .later }
def ShapeEqualsUptoCardSaid : Prop := Claim7.holds Tryd.pinned (.plain (OpenSpec.upto shapeEqualsSpec)) shapeEqualsUptoCard

/-- THE SECOND FORM's CARD OF 'hachurelaw13.ShapeCopies'. -/
def shapeCopiesUptoCard : Claim7 := { stood := { row := shapeCopiesUptoRow, standIns := [], harness := (true, "fb9c79e342d7b64b37e47c6895211a8de9ad558d65cf6289a121672f66989b8c"), looks := true }, kinds := [], alts := [], laidByText := true, laidKinds := [.data], laidTests := true, laidLooks := .later }
def ShapeCopiesUptoCardSaid : Prop := Claim7.holds Tryd.pinned (.plain (OpenSpec.upto shapeCopiesSpec)) shapeCopiesUptoCard

/-- THE SECOND FORM's CARD OF 'hachurelaw14.WkbEncodes'. -/
def wkbEncodesUptoCard : Claim7 := { stood := { row := wkbEncodesUptoRow, standIns := [], harness := (true, "fb9c79e342d7b64b37e47c6895211a8de9ad558d65cf6289a121672f66989b8c"), looks := true }, kinds := [], alts := [], laidByText := true, laidKinds := [.data, .data], laidTests := true, laidLooks := .later }
def WkbEncodesUptoCardSaid : Prop := Claim7.holds Tryd.pinned (.plain (OpenSpec.upto wkbEncodesSpec)) wkbEncodesUptoCard

/-- THE SECOND FORM's CARD OF 'hachurelaw16.BlobMakes'. -/
def blobMakesUptoCard : Claim7 := { stood := { row := blobMakesUptoRow, standIns := [], harness := (true, "fb9c79e342d7b64b37e47c6895211a8de9ad558d65cf6289a121672f66989b8c"), looks := true }, kinds := [], alts := [], laidByText := true, laidKinds := [.data, .data], laidTests := true, laidLooks := .later }
def BlobMakesUptoCardSaid : Prop := Claim7.holds Tryd.pinned (.plain (OpenSpec.upto blobMakesSpec)) blobMakesUptoCard

/-- THE SECOND FORM's CARD OF 'hachurelaw14.WkbCuts'. -/
def wkbCutsUptoCard : Claim7 := { stood := { row := wkbCutsUptoRow, standIns := [], harness := (true, "fb9c79e342d7b64b37e47c6895211a8de9ad558d65cf6289a121672f66989b8c"), looks := true }, kinds := [], alts := [], laidByText := true, laidKinds := [.data, .data], laidTests := true, laidLooks := .later }
def WkbCutsUptoCardSaid : Prop := Claim7.holds Tryd.pinned (.plain (OpenSpec.upto wkbCutsSpec)) wkbCutsUptoCard

/-- THE SECOND FORM's CARD OF 'hachurelaw14.WkbDeep'. -/
def wkbDeepUptoCard : Claim7 := { stood := { row := wkbDeepUptoRow, standIns := [], harness := (true, "fb9c79e342d7b64b37e47c6895211a8de9ad558d65cf6289a121672f66989b8c"), looks := true }, kinds := [], alts := [], laidByText := true, laidKinds := [.data, .data], laidTests := true, laidLooks := .later }
def WkbDeepUptoCardSaid : Prop := Claim7.holds Tryd.pinned (.plain (OpenSpec.upto wkbDeepSpec)) wkbDeepUptoCard

/-- THE SECOND FORM's CARD OF 'hachurelaw14.WkbBack'. -/
def wkbBackUptoCard : Claim7 := { stood := { row := wkbBackUptoRow, standIns := [], harness := (true, "fb9c79e342d7b64b37e47c6895211a8de9ad558d65cf6289a121672f66989b8c"), looks := true }, kinds := [], alts := [], laidByText := true, laidKinds := [.data, .data], laidTests := true, laidLooks := .later }
def WkbBackUptoCardSaid : Prop := Claim7.holds Tryd.pinned (.plain (OpenSpec.upto wkbBackSpec)) wkbBackUptoCard

/-- THE SECOND FORM's CARD OF 'hachurelaw16.BlobBack'. -/
def blobBackUptoCard : Claim7 := { stood := { row := blobBackUptoRow, standIns := [], harness := (true, "fb9c79e342d7b64b37e47c6895211a8de9ad558d65cf6289a121672f66989b8c"), looks := true }, kinds := [], alts := [], laidByText := true, laidKinds := [.data, .data], laidTests := true, laidLooks := .later }
def BlobBackUptoCardSaid : Prop := Claim7.holds Tryd.pinned (.plain (OpenSpec.upto blobBackSpec)) blobBackUptoCard

/-- THE SECOND FORM's CARD OF 'hachurelaw16.BlobLies'. -/
def blobLiesUptoCard : Claim7 := { stood := { row := blobLiesUptoRow, standIns := [], harness := (true, "fb9c79e342d7b64b37e47c6895211a8de9ad558d65cf6289a121672f66989b8c"), looks := true }, kinds := [], alts := [], laidByText := true, laidKinds := [.data, .data], laidTests := true, laidLooks := .later }
def BlobLiesUptoCardSaid : Prop := Claim7.holds Tryd.pinned (.plain (OpenSpec.upto blobLiesSpec)) blobLiesUptoCard

/-- THE SECOND FORM's CARD OF 'hachurelaw16.BlobCanons'. -/
def blobCanonsUptoCard : Claim7 := { stood := { row := blobCanonsUptoRow, standIns := [], harness := (true, "fb9c79e342d7b64b37e47c6895211a8de9ad558d65cf6289a121672f66989b8c"), looks := true }, kinds := [], alts := [], laidByText := true, laidKinds := [.data, .data], laidTests := true, laidLooks := .later }
def BlobCanonsUptoCardSaid : Prop := Claim7.holds Tryd.pinned (.plain (OpenSpec.upto blobCanonsSpec)) blobCanonsUptoCard
end Rows
end Go.Proofs.YtfknhpgelleenaaDoor
