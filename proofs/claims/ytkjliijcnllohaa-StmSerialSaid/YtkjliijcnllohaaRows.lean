/-
  No cell of these rows narrows 'for every input' (looked for: loops, veiled, ifaces, maps, wideKeys, modest, calm, conditions, laid).
  DERIVED. THE GIVEN ROWS OF THIS SEAT. 5 by the template 'for every input the law returns true; each argument reads behind the call as it read before'; 0 by the template 'total and deterministic' (their statements: YtkjliijcnllohaaTotals.lean).
  GIVEN WITH THE SEED: the statements are not yours to turn. If you find one false, say at which input.
  Laid BY PROGRAM, IN A SANDBOX (cutbox-rows.mjs): the forced cells as the released guide's own fill.sh prints them over the translation 67bfe54958af01c5… (all of the seat's roots in one cut). By AI agents, Wed Nov 11 2026. No macro, syntax, notation, axiom, sorry.
-/
import Derived.Test.YtkjliijcnllohaaChecked
import GoSem.Claim
import GoSem.ClaimJoined
import GoSem.ClaimMapViews
import Derived.JoinedTies
import Derived.KernelRfl
namespace Go.Proofs.Ytkjliijcnllohaa
/- THE CELL 'sum', in the pinned program and in every row, IS THE sha256 OF THE DUMP (.gsa) THAT YtkjliijcnllohaaProg.lean LOADS. Nothing in Lean hashes anything: it is a label: what it is worth is what the hold of that sum in a sandbox is worth. -/
noncomputable def Try.pinned : Pinned := { name := "ytkjliijcnllohaa", sum := "67bfe54958af01c58a8dd08ff04f691fe23986a17df0056ec84ca32c7a0ac3c0", checked := Try.checked }
namespace Rows
def none {H : Type} : Left H := { results := [], args := [] }

/-- 'rostrumlaw18.StmLocks': WHATEVER THE INPUT: true; the input reads as it did. -/
def stmLocksSpec : ChangeSpec := { name := "stmLocks", fn := fun _ => fun
  | [d1, d2] => { results := [.lit (.bool true)], args := [d1, d2] }
  | _ => none }
def stmLocksRow : OpenClaim := { program := "ytkjliijcnllohaa", sum := "67bfe54958af01c58a8dd08ff04f691fe23986a17df0056ec84ca32c7a0ac3c0", func := "rostrum/rostrumlaw18.StmLocks", spec := "stmLocks", unfollowed := true, recurses := true, apart := false }
def StmLocksSaid : Prop := stmLocksRow.holds Try.pinned (OpenSpec.ofChange stmLocksSpec)

/-- ITS FALSE NEIGHBOUR: 'it returns false'. Refute it at one input. -/
def stmLocksWrong : ChangeSpec := { name := "stmLocks", fn := fun _ => fun
  | [d1, d2] => { results := [.lit (.bool false)], args := [d1, d2] }
  | _ => none }
def StmLocksWrongFalsely : Prop := stmLocksRow.holds Try.pinned (OpenSpec.ofChange stmLocksWrong)

/-- 'rostrumlaw18.StmAlone': WHATEVER THE INPUT: true; the input reads as it did. -/
def stmAloneSpec : ChangeSpec := { name := "stmAlone", fn := fun _ => fun
  | [d1, d2, d3] => { results := [.lit (.bool true)], args := [d1, d2, d3] }
  | _ => none }
def stmAloneRow : OpenClaim := { program := "ytkjliijcnllohaa", sum := "67bfe54958af01c58a8dd08ff04f691fe23986a17df0056ec84ca32c7a0ac3c0", func := "rostrum/rostrumlaw18.StmAlone", spec := "stmAlone", unfollowed := true, recurses := true, apart := false }
def StmAloneSaid : Prop := stmAloneRow.holds Try.pinned (OpenSpec.ofChange stmAloneSpec)

/-- ITS FALSE NEIGHBOUR: 'it returns false'. Refute it at one input. -/
def stmAloneWrong : ChangeSpec := { name := "stmAlone", fn := fun _ => fun
  | [d1, d2, d3] => { results := [.lit (.bool false)], args := [d1, d2, d3] }
  | _ => none }
def StmAloneWrongFalsely : Prop := stmAloneRow.holds Try.pinned (OpenSpec.ofChange stmAloneWrong)

/-- 'rostrumlaw18.StmSerial': WHATEVER THE INPUT: true; the input reads as it did. -/
def stmSerialSpec : ChangeSpec := { name := "stmSerial", fn := fun _ => fun
  | [d] => { results := [.lit (.bool true)], args := [d] }
  | _ => none }
def stmSerialRow : OpenClaim := { program := "ytkjliijcnllohaa", sum := "67bfe54958af01c58a8dd08ff04f691fe23986a17df0056ec84ca32c7a0ac3c0", func := "rostrum/rostrumlaw18.StmSerial", spec := "stmSerial", unfollowed := true, recurses := true, apart := false }
def StmSerialSaid : Prop := stmSerialRow.holds Try.pinned (OpenSpec.ofChange stmSerialSpec)

/-- ITS FALSE NEIGHBOUR: 'it returns false'. Refute it at one input. -/
def stmSerialWrong : ChangeSpec := { name := "stmSerial", fn := fun _ => fun
  | [d] => { results := [.lit (.bool false)], args := [d] }
  | _ => none }
def StmSerialWrongFalsely : Prop := stmSerialRow.holds Try.pinned (OpenSpec.ofChange stmSerialWrong)

/-- 'rostrumlaw18.StmNobody': WHATEVER THE INPUT: true; the input reads as it did. -/
def stmNobodySpec : ChangeSpec := { name := "stmNobody", fn := fun _ => fun
  | [d] => { results := [.lit (.bool true)], args := [d] }
  | _ => none }
def stmNobodyRow : OpenClaim := { program := "ytkjliijcnllohaa", sum := "67bfe54958af01c58a8dd08ff04f691fe23986a17df0056ec84ca32c7a0ac3c0", func := "rostrum/rostrumlaw18.StmNobody", spec := "stmNobody", unfollowed := true, recurses := true, apart := false }
def StmNobodySaid : Prop := stmNobodyRow.holds Try.pinned (OpenSpec.ofChange stmNobodySpec)

/-- ITS FALSE NEIGHBOUR: 'it returns false'. Refute it at one input. -/
def stmNobodyWrong : ChangeSpec := { name := "stmNobody", fn := fun _ => fun
  | [d] => { results := [.lit (.bool false)], args := [d] }
  | _ => none }
def StmNobodyWrongFalsely : Prop := stmNobodyRow.holds Try.pinned (OpenSpec.ofChange stmNobodyWrong)

/-- 'rostrumlaw18.StmLives': WHATEVER THE INPUT: true; the input reads as it did. -/
def stmLivesSpec : ChangeSpec := { name := "stmLives", fn := fun _ => fun
  | [d1, d2] => { results := [.lit (.bool true)], args := [d1, d2] }
  | _ => none }
def stmLivesRow : OpenClaim := { program := "ytkjliijcnllohaa", sum := "67bfe54958af01c58a8dd08ff04f691fe23986a17df0056ec84ca32c7a0ac3c0", func := "rostrum/rostrumlaw18.StmLives", spec := "stmLives", unfollowed := true, recurses := true, apart := false }
def StmLivesSaid : Prop := stmLivesRow.holds Try.pinned (OpenSpec.ofChange stmLivesSpec)

/-- ITS FALSE NEIGHBOUR: 'it returns false'. Refute it at one input. -/
def stmLivesWrong : ChangeSpec := { name := "stmLives", fn := fun _ => fun
  | [d1, d2] => { results := [.lit (.bool false)], args := [d1, d2] }
  | _ => none }
def StmLivesWrongFalsely : Prop := stmLivesRow.holds Try.pinned (OpenSpec.ofChange stmLivesWrong)

/- THE SECOND FORM. 'bulk': how many values and letters a reading holds, each counted each time it is reached (what is shared counts as often as it is met; a slice's spare places count too). A statement '..UptoSaid' is the law's where the arguments, and the package variables that the reading takes, are together of bulk at most 1048576: NARROWER than '..Said'. Prove '..Said' where nothing that the law and all that it calls make is longer than what came in: it says more and counts as full. Else prove '..UptoSaid'. A law counts once. -/
mutual
def uptoBulk {H : Type} : DataW H → Nat
  | .lit (.string bytes) => bytes.length + 1
  | .lit _ => 1
  | .nil => 1
  | .ptr d => uptoBulk d + 1
  | .slice elems spare => uptoBulkAll elems + uptoBulkAll spare + 1
  | .agg parts => uptoBulkAll parts + 1
  | .iface _ d => uptoBulk d + 1
  | .map entries => uptoBulkEntries entries + 1
  | .held _ => 1
def uptoBulkAll {H : Type} : List (DataW H) → Nat
  | [] => 0
  | d :: r => uptoBulk d + uptoBulkAll r
def uptoBulkEntries {H : Type} : List (Lit × DataW H) → Nat
  | [] => 0
  | x :: r => uptoBulkEntry x + uptoBulkEntries r
def uptoBulkEntry {H : Type} : Lit × DataW H → Nat
  | (.string bytes, d) => bytes.length + uptoBulk d + 1
  | (_, d) => uptoBulk d + 1
 end
def uptoSmall : (H : Type) → List (DataW H) → Bool := fun _ ds => decide (uptoBulkAll ds ≤ 1048576)
def OpenSpec.upto (s : _root_.Go.ChangeSpec) : _root_.Go.OpenSpec := { _root_.Go.OpenSpec.ofChange s with cond := some uptoSmall }

/-- 'rostrumlaw18.StmLocks', WHERE WHAT IT READS IS OF BULK AT MOST 1048576: true; the input reads as it did. -/
def stmLocksUptoRow : OpenClaim := { program := "ytkjliijcnllohaa", sum := "67bfe54958af01c58a8dd08ff04f691fe23986a17df0056ec84ca32c7a0ac3c0", func := "rostrum/rostrumlaw18.StmLocks", spec := "stmLocks", unfollowed := true, recurses := true, apart := false, narrowed := true }
def StmLocksUptoSaid : Prop := stmLocksUptoRow.holds Try.pinned (OpenSpec.upto stmLocksSpec)

/-- 'rostrumlaw18.StmAlone', WHERE WHAT IT READS IS OF BULK AT MOST 1048576: true; the input reads as it did. -/
def stmAloneUptoRow : OpenClaim := { program := "ytkjliijcnllohaa", sum := "67bfe54958af01c58a8dd08ff04f691fe23986a17df0056ec84ca32c7a0ac3c0", func := "rostrum/rostrumlaw18.StmAlone", spec := "stmAlone", unfollowed := true, recurses := true, apart := false, narrowed := true }
def StmAloneUptoSaid : Prop := stmAloneUptoRow.holds Try.pinned (OpenSpec.upto stmAloneSpec)

/-- 'rostrumlaw18.StmSerial', WHERE WHAT IT READS IS OF BULK AT MOST 1048576: true; the input reads as it did. -/
def stmSerialUptoRow : OpenClaim := { program := "ytkjliijcnllohaa", sum := "67bfe54958af01c58a8dd08ff04f691fe23986a17df0056ec84ca32c7a0ac3c0", func := "rostrum/rostrumlaw18.StmSerial", spec := "stmSerial", unfollowed := true, recurses := true, apart := false, narrowed := true }
def StmSerialUptoSaid : Prop := stmSerialUptoRow.holds Try.pinned (OpenSpec.upto stmSerialSpec)

/-- 'rostrumlaw18.StmNobody', WHERE WHAT IT READS IS OF BULK AT MOST 1048576: true; the input reads as it did. -/
def stmNobodyUptoRow : OpenClaim := { program := "ytkjliijcnllohaa", sum := "67bfe54958af01c58a8dd08ff04f691fe23986a17df0056ec84ca32c7a0ac3c0", func := "rostrum/rostrumlaw18.StmNobody", spec := "stmNobody", unfollowed := true, recurses := true, apart := false, narrowed := true }
def StmNobodyUptoSaid : Prop := stmNobodyUptoRow.holds Try.pinned (OpenSpec.upto stmNobodySpec)

/-- 'rostrumlaw18.StmLives', WHERE WHAT IT READS IS OF BULK AT MOST 1048576: true; the input reads as it did. -/
def stmLivesUptoRow : OpenClaim := { program := "ytkjliijcnllohaa", sum := "67bfe54958af01c58a8dd08ff04f691fe23986a17df0056ec84ca32c7a0ac3c0", func := "rostrum/rostrumlaw18.StmLives", spec := "stmLives", unfollowed := true, recurses := true, apart := false, narrowed := true }
def StmLivesUptoSaid : Prop := stmLivesUptoRow.holds Try.pinned (OpenSpec.upto stmLivesSpec)

end Rows
end Go.Proofs.Ytkjliijcnllohaa
