/-
  DERIVED. GIVEN WITH THE SEED: THE CARDS: each row of YteidjfkgfmgfpaaGreatDoorRows.lean that lists a variable, with what it lists TIED to the program's text (the seventh form; the later family's looks); each row that meets fmt, with fmt's text TOLD by the authors' own Lean function (tested against real Go, not proved from fmt's source: count such statements apart). THE CARD IS WHAT COUNTS. Prove the row's statement (the work); the ties are given (YteidjfkgfmgfpaaGreatDoorTie.lean); close each card by the builder's one call (the guide's Derived/Test/ToyasCard.lean, 'card_holds'). Laid BY PROGRAM, IN A SANDBOX (cutbox-door.mjs). By AI agents, Wed Nov 11 2026. No macro, syntax, notation, axiom, sorry.
-/
import Derived.Test.YteidjfkgfmgfpaaGreatDoorRows
import GoSem.ClaimSeven
namespace Go.Proofs.YteidjfkgfmgfpaaGreatDoor
namespace Rows

/-- THE TIED CARD OF 'rostrumlaw16.SerialNobody'. -/
def serialNobodyCard : Claim7 := { stood := { row := serialNobodyRow, standIns := [], harness := (true, "4e4f3134319cef87c4ff01e9ed3feb08a0bcaf9ab27237b7c792cb6cb41b95fb"), looks := false }, kinds := [], alts := [], laidByText := true, laidKinds := [.data], laidTests := true, laidLooks := .later }
def SerialNobodyCardSaid : Prop := Claim7.holds Tryz.pinned (.plain (OpenSpec.ofChange serialNobodySpec)) serialNobodyCard

/-- THE SECOND FORM's CARD OF 'rostrumlaw16.SerialNobody'. -/
def serialNobodyUptoCard : Claim7 := { stood := { row := serialNobodyUptoRow, standIns := [], harness := (true, "4e4f3134319cef87c4ff01e9ed3feb08a0bcaf9ab27237b7c792cb6cb41b95fb"), looks := false }, kinds := [], alts := [], laidByText := true, laidKinds := [.data], laidTests := true, laidLooks := .later }
def SerialNobodyUptoCardSaid : Prop := Claim7.holds Tryz.pinned (.plain (OpenSpec.upto serialNobodySpec)) serialNobodyUptoCard
end Rows
end Go.Proofs.YteidjfkgfmgfpaaGreatDoor
