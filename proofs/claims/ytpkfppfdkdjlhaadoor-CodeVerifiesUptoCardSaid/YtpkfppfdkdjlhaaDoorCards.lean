/-
  DERIVED. GIVEN WITH THE SEED: THE CARDS: each row of YtpkfppfdkdjlhaaDoorRows.lean that lists a variable, with what it lists TIED to the program's text (the seventh form; the later family's looks); each row that meets fmt, with fmt's text TOLD by the authors' own Lean function (tested against real Go, not proved from fmt's source: count such statements apart). THE CARD IS WHAT COUNTS. Prove the row's statement (the work); the ties are given (YtpkfppfdkdjlhaaDoorTie.lean); close each card by the builder's one call (the guide's Derived/Test/ToyasCard.lean, 'card_holds'). Laid BY PROGRAM, IN A SANDBOX (cutbox-door.mjs). By AI agents, Wed Nov 11 2026. No macro, syntax, notation, axiom, sorry.
-/
import Derived.Test.YtpkfppfdkdjlhaaDoorRows
import GoSem.ClaimSeven
namespace Go.Proofs.YtpkfppfdkdjlhaaDoor
namespace Rows

/-- THE TIED CARD OF 'rostrumlaw13.CodeVerifies'. -/
def codeVerifiesCard : Claim7 := { stood := { row := codeVerifiesRow, standIns := [], harness := (true, "bd6e6eaafb8ba7e08ce37d889e8a7e93fec712d934dbd10adf064af55f4ba602"), looks := false }, kinds := [], alts := [], laidByText := true, laidKinds := [.data], laidTests := true, laidLooks := .later }
def CodeVerifiesCardSaid : Prop := Claim7.holds Tryd.pinned (.plain (OpenSpec.ofChange codeVerifiesSpec)) codeVerifiesCard

/-- THE SECOND FORM's CARD OF 'rostrumlaw13.CodeVerifies'. -/
def codeVerifiesUptoCard : Claim7 := { stood := { row := codeVerifiesUptoRow, standIns := [], harness := (true, "bd6e6eaafb8ba7e08ce37d889e8a7e93fec712d934dbd10adf064af55f4ba602"), looks := false }, kinds := [], alts := [], laidByText := true, laidKinds := [.data], laidTests := true, laidLooks := .later }
def CodeVerifiesUptoCardSaid : Prop := Claim7.holds Tryd.pinned (.plain (OpenSpec.upto codeVerifiesSpec)) codeVerifiesUptoCard
end Rows
end Go.Proofs.YtpkfppfdkdjlhaaDoor
