/-
  DERIVED. GIVEN WITH THE SEED: THE CARDS: each row of YtcghnahkcjigoaaGreatDoorRows.lean that lists a variable, with what it lists TIED to the program's text (the seventh form; the later family's looks); each row that meets fmt, with fmt's text TOLD by the authors' own Lean function (tested against real Go, not proved from fmt's source: count such statements apart). THE CARD IS WHAT COUNTS. Prove the row's statement (the work); the ties are given (YtcghnahkcjigoaaGreatDoorTie.lean); close each card by the builder's one call (the guide's Derived/Test/ToyasCard.lean, 'card_holds'). Laid BY PROGRAM, IN A SANDBOX (cutbox-door.mjs). By AI agents, Wed Nov 11 2026. No macro, syntax, notation, axiom, sorry.
-/
import Derived.Test.YtcghnahkcjigoaaGreatDoorRows
import GoSem.ClaimSeven
namespace Go.Proofs.YtcghnahkcjigoaaGreatDoor
namespace Rows

/-- THE TIED CARD OF 'rostrumlaw15.PrimsNames'. -/
def primsNamesCard : Claim7 := { stood := { row := primsNamesRow, standIns := [], harness := (true, "6dbce95c0238ebf6a18aee1346a98b54c7e3b89b7356e632023908286ccd6e2a"), looks := true }, kinds := [], alts := [], laidByText := true, laidKinds := [.data, .data, .data, .sentinel, .sentinel], laidTests := true, laidLooks := .later }
def PrimsNamesCardSaid : Prop := Claim7.holds Tryz.pinned (.plain (OpenSpec.ofChange primsNamesSpec)) primsNamesCard

/-- THE SECOND FORM's CARD OF 'rostrumlaw15.PrimsNames'. -/
def primsNamesUptoCard : Claim7 := { stood := { row := primsNamesUptoRow, standIns := [], harness := (true, "6dbce95c0238ebf6a18aee1346a98b54c7e3b89b7356e632023908286ccd6e2a"), looks := true }, kinds := [], alts := [], laidByText := true, laidKinds := [.data, .data, .data, .sentinel, .sentinel], laidTests := true, laidLooks := .later }
def PrimsNamesUptoCardSaid : Prop := Claim7.holds Tryz.pinned (.plain (OpenSpec.upto primsNamesSpec)) primsNamesUptoCard
end Rows
end Go.Proofs.YtcghnahkcjigoaaGreatDoor
