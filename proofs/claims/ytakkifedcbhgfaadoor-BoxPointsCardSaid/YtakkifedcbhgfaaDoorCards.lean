/-
  DERIVED. GIVEN WITH THE SEED: THE CARDS: each row of YtakkifedcbhgfaaDoorRows.lean that lists a variable, with what it lists TIED to the program's text (the seventh form; the later family's looks); each row that meets fmt, with fmt's text TOLD by the authors' own Lean function (tested against real Go, not proved from fmt's source: count such statements apart). THE CARD IS WHAT COUNTS. Prove the row's statement (the work); the ties are given (YtakkifedcbhgfaaDoorTie.lean); close each card by the builder's one call (the guide's Derived/Test/ToyasCard.lean, 'card_holds'). Laid BY PROGRAM, IN A SANDBOX (cutbox-door.mjs). By AI agents, Wed Nov 11 2026. No macro, syntax, notation, axiom, sorry.
-/
import Derived.Test.YtakkifedcbhgfaaDoorRows
import GoSem.ClaimSeven
namespace Go.Proofs.YtakkifedcbhgfaaDoor
namespace Rows

/-- THE TIED CARD OF 'hachurelaw01.WideTimes'. -/
def wideTimesCard : Claim7 := { stood := { row := wideTimesRow, standIns := [], harness := (true, "0460f7aafd6cdff2b54b16a7e26aab4f25d24f58409e62f7fb2d938942365974"), looks := false }, kinds := [], alts := [], laidByText := true, laidKinds := [.data, .pinned], laidTests := true, laidLooks := .later }
def WideTimesCardSaid : Prop := Claim7.holds Tryd.pinned (.plain (OpenSpec.ofChange wideTimesSpec)) wideTimesCard

/-- THE TIED CARD OF 'hachurelaw01.WideTexts'. -/
def wideTextsCard : Claim7 := { stood := { row := wideTextsRow, standIns := [], harness := (true, "0460f7aafd6cdff2b54b16a7e26aab4f25d24f58409e62f7fb2d938942365974"), looks := false }, kinds := [], alts := [], laidByText := true, laidKinds := [.data, .pinned], laidTests := true, laidLooks := .later }
def WideTextsCardSaid : Prop := Claim7.holds Tryd.pinned (.plain (OpenSpec.ofChange wideTextsSpec)) wideTextsCard

/-- THE TIED CARD OF 'hachurelaw01.WideOrder'. -/
def wideOrderCard : Claim7 := { stood := { row := wideOrderRow, standIns := [], harness := (true, "0460f7aafd6cdff2b54b16a7e26aab4f25d24f58409e62f7fb2d938942365974"), looks := false }, kinds := [], alts := [], laidByText := true, laidKinds := [.data, .pinned], laidTests := true, laidLooks := .later }
def WideOrderCardSaid : Prop := Claim7.holds Tryd.pinned (.plain (OpenSpec.ofChange wideOrderSpec)) wideOrderCard

/-- THE TIED CARD OF 'hachurelaw15.BoxOf'. -/
def boxOfCard : Claim7 := { stood := { row := boxOfRow, standIns := [], harness := (true, "0460f7aafd6cdff2b54b16a7e26aab4f25d24f58409e62f7fb2d938942365974"), looks := false }, kinds := [], alts := [], laidByText := true, laidKinds := [.data, .pinned], laidTests := true, laidLooks := .later }
def BoxOfCardSaid : Prop := Claim7.holds Tryd.pinned (.plain (OpenSpec.ofChange boxOfSpec)) boxOfCard

/-- THE TIED CARD OF 'hachurelaw15.BoxPoints'. -/
def boxPointsCard : Claim7 := { stood := { row := boxPointsRow, standIns := [], harness := (true, "0460f7aafd6cdff2b54b16a7e26aab4f25d24f58409e62f7fb2d938942365974"), looks := false }, kinds := [], alts := [], laidByText := true, laidKinds := [.data, .pinned], laidTests := true, laidLooks := .later }
def BoxPointsCardSaid : Prop := Claim7.holds Tryd.pinned (.plain (OpenSpec.ofChange boxPointsSpec)) boxPointsCard

/-- THE TIED CARD OF 'hachurelaw01.WideAdds'. -/
def wideAddsCard : Claim7 := { stood := { row := wideAddsRow, standIns := [], harness := (true, "0460f7aafd6cdff2b54b16a7e26aab4f25d24f58409e62f7fb2d938942365974"), looks := false }, kinds := [], alts := [], laidByText := true, laidKinds := [.data, .pinned], laidTests := true, laidLooks := .later }
def WideAddsCardSaid : Prop := Claim7.holds Tryd.pinned (.plain (OpenSpec.ofChange wideAddsSpec)) wideAddsCard

/-- THE TIED CARD OF 'hachurelaw15.BoxHolds'. -/
def boxHoldsCard : Claim7 := { stood := { row := boxHoldsRow, standIns := [], harness := (true, "0460f7aafd6cdff2b54b16a7e26aab4f25d24f58409e62f7fb2d938942365974"), looks := false }, kinds := [], alts := [], laidByText := true, laidKinds := [.data, .pinned], laidTests := true, laidLooks := .later }
def BoxHoldsCardSaid : Prop := Claim7.holds Tryd.pinned (.plain (OpenSpec.ofChange boxHoldsSpec)) boxHoldsCard

/-- THE TIED CARD OF 'hachurelaw01.WideBack'. -/
def wideBackCard : Claim7 := { stood := { row := wideBackRow, standIns := [], harness := (true, "0460f7aafd6cdff2b54b16a7e26aab4f25d24f58409e62f7fb2d938942365974"), looks := false }, kinds := [], alts := [], laidByText := true, laidKinds := [.data, .pinned], laidTests := true, laidLooks := .later }
def WideBackCardSaid : Prop := Claim7.holds Tryd.pinned (.plain (OpenSpec.ofChange wideBackSpec)) wideBackCard

/-- THE TIED CARD OF 'hachurelaw15.BoxAsks'. -/
def boxAsksCard : Claim7 := { stood := { row := boxAsksRow, standIns := [], harness := (true, "0460f7aafd6cdff2b54b16a7e26aab4f25d24f58409e62f7fb2d938942365974"), looks := false }, kinds := [], alts := [], laidByText := true, laidKinds := [.data, .pinned], laidTests := true, laidLooks := .later }
def BoxAsksCardSaid : Prop := Claim7.holds Tryd.pinned (.plain (OpenSpec.ofChange boxAsksSpec)) boxAsksCard

/-- THE TIED CARD OF 'hachurelaw15.BoxBytes'. -/
def boxBytesCard : Claim7 := { stood := { row := boxBytesRow, standIns := [], harness := (true, "0460f7aafd6cdff2b54b16a7e26aab4f25d24f58409e62f7fb2d938942365974"), looks := false }, kinds := [], alts := [], laidByText := true, laidKinds := [.data, .pinned], laidTests := true, laidLooks := .later }
def BoxBytesCardSaid : Prop := Claim7.holds Tryd.pinned (.plain (OpenSpec.ofChange boxBytesSpec)) boxBytesCard

/-- THE SECOND FORM's CARD OF 'hachurelaw01.WideTimes'. -/
def wideTimesUptoCard : Claim7 := { stood := { row := wideTimesUptoRow, standIns := [], harness := (true, "0460f7aafd6cdff2b54b16a7e26aab4f25d24f58409e62f7fb2d938942365974"), looks := false }, kinds := [], alts := [], laidByText := true, laidKinds := [.data, .pinned], laidTests := true, laidLooks := .later }
def WideTimesUptoCardSaid : Prop := Claim7.holds Tryd.pinned (.plain (OpenSpec.upto wideTimesSpec)) wideTimesUptoCard

/-- THE SECOND FORM's CARD OF 'hachurelaw01.WideTexts'. -/
def wideTextsUptoCard : Claim7 := { stood := { row := wideTextsUptoRow, standIns := [], harness := (true, "0460f7aafd6cdff2b54b16a7e26aab4f25d24f58409e62f7fb2d938942365974"), looks := false }, kinds := [], alts := [], laidByText := true, laidKinds := [.data, .pinned], laidTests := true, laidLooks := .later }
def WideTextsUptoCardSaid : Prop := Claim7.holds Tryd.pinned (.plain (OpenSpec.upto wideTextsSpec)) wideTextsUptoCard

/-- THE SECOND FORM's CARD OF 'hachurelaw01.WideOrder'. -/
def wideOrderUptoCard : Claim7 := { stood := { row := wideOrderUptoRow, standIns := [], harness := (true, "0460f7aafd6cdff2b54b16a7e26aab4f25d24f58409e62f7fb2d938942365974"), looks := false }, kinds := [], alts := [], laidByText := true, laidKinds := [.data, .pinned], laidTests := true, laidLooks := .later }
def WideOrderUptoCardSaid : Prop := Claim7.holds Tryd.pinned (.plain (OpenSpec.upto wideOrderSpec)) wideOrderUptoCard

/-- THE SECOND FORM's CARD OF 'hachurelaw15.BoxOf'. -/
def boxOfUptoCard : Claim7 := { stood := { row := boxOfUptoRow, standIns := [], harness := (true, "0460f7aafd6cdff2b54b16a7e26aab4f25d24f58409e62f7fb2d938942365974"), looks := false }, kinds := [], alts := [], laidByText := true, laidKinds := [.data, .pinned], laidTests := true, laidLooks := .later }
def BoxOfUptoCardSaid : Prop := Claim7.holds Tryd.pinned (.plain (OpenSpec.upto boxOfSpec)) boxOfUptoCard

/-- THE SECOND FORM's CARD OF 'hachurelaw15.BoxPoints'. -/
def boxPointsUptoCard : Claim7 := { stood := { row := boxPointsUptoRow, standIns := [], harness := (true, "0460f7aafd6cdff2b54b16a7e26aab4f25d24f58409e62f7fb2d938942365974"), looks := false }, kinds := [], alts := [], laidByText := true, laidKinds := [.data, .pinned], laidTests := true, laidLooks := .later }
def BoxPointsUptoCardSaid : Prop := Claim7.holds Tryd.pinned (.plain (OpenSpec.upto boxPointsSpec)) boxPointsUptoCard

/-- THE SECOND FORM's CARD OF 'hachurelaw01.WideAdds'. -/
def wideAddsUptoCard : Claim7 := { stood := { row := wideAddsUptoRow, standIns := [], harness := (true, "0460f7aafd6cdff2b54b16a7e26aab4f25d24f58409e62f7fb2d938942365974"), looks := false }, kinds := [], alts := [], laidByText := true, laidKinds := [.data, .pinned], laidTests := true, laidLooks := .later }
def WideAddsUptoCardSaid : Prop := Claim7.holds Tryd.pinned (.plain (OpenSpec.upto wideAddsSpec)) wideAddsUptoCard

/-- THE SECOND FORM's CARD OF 'hachurelaw15.BoxHolds'. -/
def boxHoldsUptoCard : Claim7 := { stood := { row := boxHoldsUptoRow, standIns := [], harness := (true, "0460f7aafd6cdff2b54b16a7e26aab4f25d24f58409e62f7fb2d938942365974"), looks := false }, kinds := [], alts := [], laidByText := true, laidKinds := [.data, .pinned], laidTests := true, laidLooks := .later }
def BoxHoldsUptoCardSaid : Prop := Claim7.holds Tryd.pinned (.plain (OpenSpec.upto boxHoldsSpec)) boxHoldsUptoCard

/-- THE SECOND FORM's CARD OF 'hachurelaw01.WideBack'. -/
def wideBackUptoCard : Claim7 := { stood := { row := wideBackUptoRow, standIns := [], harness := (true, "0460f7aafd6cdff2b54b16a7e26aab4f25d24f58409e62f7fb2d938942365974"), looks := false }, kinds := [], alts := [], laidByText := true, laidKinds := [.data, .pinned], laidTests := true, laidLooks := .later }
def WideBackUptoCardSaid : Prop := Claim7.holds Tryd.pinned (.plain (OpenSpec.upto wideBackSpec)) wideBackUptoCard

/-- THE SECOND FORM's CARD OF 'hachurelaw15.BoxAsks'. -/
def boxAsksUptoCard : Claim7 := { stood := { row := boxAsksUptoRow, standIns := [], harness := (true, "0460f7aafd6cdff2b54b16a7e26aab4f25d24f58409e62f7fb2d938942365974"), looks := false }, kinds := [], alts := [], laidByText := true, laidKinds := [.data, .pinned], laidTests := true, laidLooks := .later }
def BoxAsksUptoCardSaid : Prop := Claim7.holds Tryd.pinned (.plain (OpenSpec.upto boxAsksSpec)) boxAsksUptoCard

/-- THE SECOND FORM's CARD OF 'hachurelaw15.BoxBytes'. -/
def boxBytesUptoCard : Claim7 := { stood := { row := boxBytesUptoRow, standIns := [], harness := (true, "0460f7aafd6cdff2b54b16a7e26aab4f25d24f58409e62f7fb2d938942365974"), looks := false }, kinds := [], alts := [], laidByText := true, laidKinds := [.data, .pinned], laidTests := true, laidLooks := .later }
def BoxBytesUptoCardSaid : Prop := Claim7.holds Tryd.pinned (.plain (OpenSpec.upto boxBytesSpec)) boxBytesUptoCard
end Rows
end Go.Proofs.YtakkifedcbhgfaaDoor
