/-
  DERIVED. GIVEN WITH THE SEED: THE CARDS: each row of YtjphkokfleoinaaDoorRows.lean that lists a variable, with what it lists TIED to the program's text (the seventh form; the later family's looks); each row that meets fmt, with fmt's text TOLD by the authors' own Lean function (tested against real Go, not proved from fmt's source: count such statements apart). THE CARD IS WHAT COUNTS. Prove the row's statement (the work); the ties are given (YtjphkokfleoinaaDoorTie.lean); close each card by the builder's one call (the guide's Derived/Test/ToyasCard.lean, 'card_holds'). Laid BY PROGRAM, IN A SANDBOX (cutbox-door.mjs). By AI agents, Wed Nov 11 2026. No macro, syntax, notation, axiom, sorry.
-/
import Derived.Test.YtjphkokfleoinaaDoorRows
import GoSem.ClaimSeven
namespace Go.Proofs.YtjphkokfleoinaaDoor
namespace Rows

/-- THE TIED CARD OF 'rostrumlaw10.DatumBack'. -/
def datumBackCard : Claim7 := { stood := { row := datumBackRow, standIns := [], harness := (true, "e937a0e8444d0c6a2ad91a6a2f4be8dcbbd0f127163633f148c016f7a61e5a6e"), looks := true }, kinds := [], alts := [], laidByText := true, laidKinds := [.data, .pinned], laidTests := true, laidLooks := .later }
def DatumBackCardSaid : Prop := Claim7.holds Tryd.pinned (.plain (OpenSpec.ofChange datumBackSpec)) datumBackCard

/-- THE SECOND FORM's CARD OF 'rostrumlaw10.DatumBack'. -/
def datumBackUptoCard : Claim7 := { stood := { row := datumBackUptoRow, standIns := [], harness := (true, "e937a0e8444d0c6a2ad91a6a2f4be8dcbbd0f127163633f148c016f7a61e5a6e"), looks := true }, kinds := [], alts := [], laidByText := true, laidKinds := [.data, .pinned], laidTests := true, laidLooks := .later }
def DatumBackUptoCardSaid : Prop := Claim7.holds Tryd.pinned (.plain (OpenSpec.upto datumBackSpec)) datumBackUptoCard
end Rows
end Go.Proofs.YtjphkokfleoinaaDoor
