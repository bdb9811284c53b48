/-
  DERIVED. GIVEN WITH THE SEED: THE CARDS: each row of YtlnneellihkdkaaDoorRows.lean that lists a variable, with what it lists TIED to the program's text (the seventh form; the later family's looks); each row that meets fmt, with fmt's text TOLD by the authors' own Lean function (tested against real Go, not proved from fmt's source: count such statements apart). THE CARD IS WHAT COUNTS. Prove the row's statement (the work); the ties are given (YtlnneellihkdkaaDoorTie.lean); close each card by the builder's one call (the guide's Derived/Test/ToyasCard.lean, 'card_holds'). Laid BY PROGRAM, IN A SANDBOX (cutbox-door.mjs). By AI agents, Wed Nov 11 2026. No macro, syntax, notation, axiom, sorry.
-/
import Derived.Test.YtlnneellihkdkaaDoorRows
import GoSem.ClaimSeven
namespace Go.Proofs.YtlnneellihkdkaaDoor
namespace Rows

/-- THE TIED CARD OF 'rostrumlaw09.NumberTexts'. -/
def numberTextsCard : Claim7 := { stood := { row := numberTextsRow, standIns := [], harness := (true, "2f3c657f4027215b9afd712ec7a7883cd1e9311ade13e23fd57b2d9de7a5bc4c"), looks := true }, kinds := [], alts := [], laidByText := true, laidKinds := [.data, .data, .data, .sentinel, .sentinel], laidTests := true, laidLooks := .later }
def NumberTextsCardSaid : Prop := Claim7.holds Tryd.pinned (.plain (OpenSpec.ofChange numberTextsSpec)) numberTextsCard

/-- THE TIED CARD OF 'rostrumlaw09.NumberRing'. -/
def numberRingCard : Claim7 := { stood := { row := numberRingRow, standIns := [], harness := (true, "2f3c657f4027215b9afd712ec7a7883cd1e9311ade13e23fd57b2d9de7a5bc4c"), looks := true }, kinds := [], alts := [], laidByText := true, laidKinds := [.data, .data, .data, .sentinel, .sentinel], laidTests := true, laidLooks := .later }
def NumberRingCardSaid : Prop := Claim7.holds Tryd.pinned (.plain (OpenSpec.ofChange numberRingSpec)) numberRingCard

/-- THE TIED CARD OF 'rostrumlaw09.NumberSums'. -/
def numberSumsCard : Claim7 := { stood := { row := numberSumsRow, standIns := [], harness := (true, "2f3c657f4027215b9afd712ec7a7883cd1e9311ade13e23fd57b2d9de7a5bc4c"), looks := true }, kinds := [], alts := [], laidByText := true, laidKinds := [.data, .data, .data, .sentinel, .sentinel], laidTests := true, laidLooks := .later }
def NumberSumsCardSaid : Prop := Claim7.holds Tryd.pinned (.plain (OpenSpec.ofChange numberSumsSpec)) numberSumsCard

/-- THE TIED CARD OF 'rostrumlaw09.NumberOrder'. -/
def numberOrderCard : Claim7 := { stood := { row := numberOrderRow, standIns := [], harness := (true, "2f3c657f4027215b9afd712ec7a7883cd1e9311ade13e23fd57b2d9de7a5bc4c"), looks := true }, kinds := [], alts := [], laidByText := true, laidKinds := [.data, .data, .data, .sentinel, .sentinel], laidTests := true, laidLooks := .later }
def NumberOrderCardSaid : Prop := Claim7.holds Tryd.pinned (.plain (OpenSpec.ofChange numberOrderSpec)) numberOrderCard

/-- THE TIED CARD OF 'rostrumlaw09.NumberParts'. -/
def numberPartsCard : Claim7 := { stood := { row := numberPartsRow, standIns := [], harness := (true, "2f3c657f4027215b9afd712ec7a7883cd1e9311ade13e23fd57b2d9de7a5bc4c"), looks := true }, kinds := [], alts := [], laidByText := true, laidKinds := [.data, .data, .data, .sentinel, .sentinel], laidTests := true, laidLooks := .later }
def NumberPartsCardSaid : Prop := Claim7.holds Tryd.pinned (.plain (OpenSpec.ofChange numberPartsSpec)) numberPartsCard

/-- THE TIED CARD OF 'rostrumlaw09.NumberDivides'. -/
def numberDividesCard : Claim7 := { stood := { row := numberDividesRow, standIns := [], harness := (true, "2f3c657f4027215b9afd712ec7a7883cd1e9311ade13e23fd57b2d9de7a5bc4c"), looks := true }, kinds := [], alts := [], laidByText := true, laidKinds := [.data, .data, .data, .sentinel, .sentinel], laidTests := true, laidLooks := .later }
def NumberDividesCardSaid : Prop := Claim7.holds Tryd.pinned (.plain (OpenSpec.ofChange numberDividesSpec)) numberDividesCard

/-- THE SECOND FORM's CARD OF 'rostrumlaw09.NumberTexts'. -/
def numberTextsUptoCard : Claim7 := { stood := { row := numberTextsUptoRow, standIns := [], harness := (true, "2f3c657f4027215b9afd712ec7a7883cd1e9311ade13e23fd57b2d9de7a5bc4c"), looks := true }, kinds := [], alts := [], laidByText := true, laidKinds := [.data, .data, .data, .sentinel, .sentinel], laidTests := true, laidLooks := .later }
def NumberTextsUptoCardSaid : Prop := Claim7.holds Tryd.pinned (.plain (OpenSpec.upto numberTextsSpec)) numberTextsUptoCard

/-- THE SECOND FORM's CARD OF 'rostrumlaw09.NumberRing'. -/
def numberRingUptoCard : Claim7 := { stood := { row := numberRingUptoRow, standIns := [], harness := (true, "2f3c657f4027215b9afd712ec7a7883cd1e9311ade13e23fd57b2d9de7a5bc4c"), looks := true }, kinds := [], alts := [], laidByText := true, laidKinds := [.data, .data, .data, .sentinel, .sentinel], laidTests := true, laidLooks := .later }
def NumberRingUptoCardSaid : Prop := Claim7.holds Tryd.pinned (.plain (OpenSpec.upto numberRingSpec)) numberRingUptoCard

/-- THE SECOND FORM's CARD OF 'rostrumlaw09.NumberSums'. -/
def numberSumsUptoCard : Claim7 := { stood := { row := numberSumsUptoRow, standIns := [], harness := (true, "2f3c657f4027215b9afd712ec7a7883cd1e9311ade13e23fd57b2d9de7a5bc4c"), looks := true }, kinds := [], alts := [], laidByText := true, laidKinds := [.data, .data, .data, .sentinel, .sentinel], laidTests := true, laidLooks := .later }
def NumberSumsUptoCardSaid : Prop := Claim7.holds Tryd.pinned (.plain (OpenSpec.upto numberSumsSpec)) numberSumsUptoCard

/-- THE SECOND FORM's CARD OF 'rostrumlaw09.NumberOrder'. -/
def numberOrderUptoCard : Claim7 := { stood := { row := numberOrderUptoRow, standIns := [], harness := (true, "2f3c657f4027215b9afd712ec7a7883cd1e9311ade13e23fd57b2d9de7a5bc4c"), looks := true }, kinds := [], alts := [], laidByText := true, laidKinds := [.data, .data, .data, .sentinel, .sentinel], laidTests := true, laidLooks := .later }
def NumberOrderUptoCardSaid : Prop := Claim7.holds Tryd.pinned (.plain (OpenSpec.upto numberOrderSpec)) numberOrderUptoCard

/-- THE SECOND FORM's CARD OF 'rostrumlaw09.NumberParts'. -/
def numberPartsUptoCard : Claim7 := { stood := { row := numberPartsUptoRow, standIns := [], harness := (true, "2f3c657f4027215b9afd712ec7a7883cd1e9311ade13e23fd57b2d9de7a5bc4c"), looks := true }, kinds := [], alts := [], laidByText := true, laidKinds := [.data, .data, .data, .sentinel, .sentinel], laidTests := true, laidLooks := .later }
def NumberPartsUptoCardSaid : Prop := Claim7.holds Tryd.pinned (.plain (OpenSpec.upto numberPartsSpec)) numberPartsUptoCard

/-- THE SECOND FORM's CARD OF 'rostrumlaw09.NumberDivides'. -/
def numberDividesUptoCard : Claim7 := { stood := { row := numberDividesUptoRow, standIns := [], harness := (true, "2f3c657f4027215b9afd712ec7a7883cd1e9311ade13e23fd57b2d9de7a5bc4c"), looks := true }, kinds := [], alts := [], laidByText := true, laidKinds := [.data, .data, .data, .sentinel, .sentinel], laidTests := true, laidLooks := .later }
def NumberDividesUptoCardSaid : Prop := Claim7.holds Tryd.pinned (.plain (OpenSpec.upto numberDividesSpec)) numberDividesUptoCard
end Rows
end Go.Proofs.YtlnneellihkdkaaDoor
