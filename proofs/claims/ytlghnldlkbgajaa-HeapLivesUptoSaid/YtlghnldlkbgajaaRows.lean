/-
  No cell of these rows narrows 'for every input' (looked for: loops, veiled, ifaces, maps, wideKeys, modest, calm, conditions, laid).
  DERIVED. THE GIVEN ROWS OF THIS SEAT. 5 by the template 'for every input the law returns true; each argument reads behind the call as it read before'; 0 by the template 'total and deterministic' (their statements: YtlghnldlkbgajaaTotals.lean).
  GIVEN WITH THE SEED: the statements are not yours to turn. If you find one false, say at which input.
  Laid BY PROGRAM, IN A SANDBOX (cutbox-rows.mjs): the forced cells as the released guide's own fill.sh prints them over the translation a1177359f505f2a2… (all of the seat's roots in one cut). By AI agents, Wed Nov 11 2026. No macro, syntax, notation, axiom, sorry.
-/
import Derived.Test.YtlghnldlkbgajaaChecked
import GoSem.Claim
import GoSem.ClaimJoined
import GoSem.ClaimMapViews
import Derived.JoinedTies
import Derived.KernelRfl
namespace Go.Proofs.Ytlghnldlkbgajaa
/- THE CELL 'sum', in the pinned program and in every row, IS THE sha256 OF THE DUMP (.gsa) THAT YtlghnldlkbgajaaProg.lean LOADS. Nothing in Lean hashes anything: it is a label: what it is worth is what the hold of that sum in a sandbox is worth. -/
noncomputable def Try.pinned : Pinned := { name := "ytlghnldlkbgajaa", sum := "a1177359f505f2a261b56cfd8900a473ba70e2fc76f1fa195c39691a963c7c85", checked := Try.checked }
namespace Rows
def none {H : Type} : Left H := { results := [], args := [] }

/-- 'rostrumlaw14.HeapChain': WHATEVER THE INPUT: true; the input reads as it did. -/
def heapChainSpec : ChangeSpec := { name := "heapChain", fn := fun _ => fun
  | [d1, d2] => { results := [.lit (.bool true)], args := [d1, d2] }
  | _ => none }
def heapChainRow : OpenClaim := { program := "ytlghnldlkbgajaa", sum := "a1177359f505f2a261b56cfd8900a473ba70e2fc76f1fa195c39691a963c7c85", func := "rostrum/rostrumlaw14.HeapChain", spec := "heapChain", unfollowed := true, recurses := true, apart := false }
def HeapChainSaid : Prop := heapChainRow.holds Try.pinned (OpenSpec.ofChange heapChainSpec)

/-- ITS FALSE NEIGHBOUR: 'it returns false'. Refute it at one input. -/
def heapChainWrong : ChangeSpec := { name := "heapChain", fn := fun _ => fun
  | [d1, d2] => { results := [.lit (.bool false)], args := [d1, d2] }
  | _ => none }
def HeapChainWrongFalsely : Prop := heapChainRow.holds Try.pinned (OpenSpec.ofChange heapChainWrong)

/-- 'rostrumlaw14.HeapStays': WHATEVER THE INPUT: true; the input reads as it did. -/
def heapStaysSpec : ChangeSpec := { name := "heapStays", fn := fun _ => fun
  | [d1, d2] => { results := [.lit (.bool true)], args := [d1, d2] }
  | _ => none }
def heapStaysRow : OpenClaim := { program := "ytlghnldlkbgajaa", sum := "a1177359f505f2a261b56cfd8900a473ba70e2fc76f1fa195c39691a963c7c85", func := "rostrum/rostrumlaw14.HeapStays", spec := "heapStays", unfollowed := true, recurses := true, apart := false }
def HeapStaysSaid : Prop := heapStaysRow.holds Try.pinned (OpenSpec.ofChange heapStaysSpec)

/-- ITS FALSE NEIGHBOUR: 'it returns false'. Refute it at one input. -/
def heapStaysWrong : ChangeSpec := { name := "heapStays", fn := fun _ => fun
  | [d1, d2] => { results := [.lit (.bool false)], args := [d1, d2] }
  | _ => none }
def HeapStaysWrongFalsely : Prop := heapStaysRow.holds Try.pinned (OpenSpec.ofChange heapStaysWrong)

/-- 'rostrumlaw14.HeapLive': WHATEVER THE INPUT: true; the input reads as it did. -/
def heapLiveSpec : ChangeSpec := { name := "heapLive", fn := fun _ => fun
  | [d] => { results := [.lit (.bool true)], args := [d] }
  | _ => none }
def heapLiveRow : OpenClaim := { program := "ytlghnldlkbgajaa", sum := "a1177359f505f2a261b56cfd8900a473ba70e2fc76f1fa195c39691a963c7c85", func := "rostrum/rostrumlaw14.HeapLive", spec := "heapLive", unfollowed := true, recurses := true, apart := false }
def HeapLiveSaid : Prop := heapLiveRow.holds Try.pinned (OpenSpec.ofChange heapLiveSpec)

/-- ITS FALSE NEIGHBOUR: 'it returns false'. Refute it at one input. -/
def heapLiveWrong : ChangeSpec := { name := "heapLive", fn := fun _ => fun
  | [d] => { results := [.lit (.bool false)], args := [d] }
  | _ => none }
def HeapLiveWrongFalsely : Prop := heapLiveRow.holds Try.pinned (OpenSpec.ofChange heapLiveWrong)

/-- 'rostrumlaw14.HeapLives': WHATEVER THE INPUT: true; the input reads as it did. -/
def heapLivesSpec : ChangeSpec := { name := "heapLives", fn := fun _ => fun
  | [d1, d2, d3] => { results := [.lit (.bool true)], args := [d1, d2, d3] }
  | _ => none }
def heapLivesRow : OpenClaim := { program := "ytlghnldlkbgajaa", sum := "a1177359f505f2a261b56cfd8900a473ba70e2fc76f1fa195c39691a963c7c85", func := "rostrum/rostrumlaw14.HeapLives", spec := "heapLives", unfollowed := true, recurses := true, apart := false }
def HeapLivesSaid : Prop := heapLivesRow.holds Try.pinned (OpenSpec.ofChange heapLivesSpec)

/-- ITS FALSE NEIGHBOUR: 'it returns false'. Refute it at one input. -/
def heapLivesWrong : ChangeSpec := { name := "heapLives", fn := fun _ => fun
  | [d1, d2, d3] => { results := [.lit (.bool false)], args := [d1, d2, d3] }
  | _ => none }
def HeapLivesWrongFalsely : Prop := heapLivesRow.holds Try.pinned (OpenSpec.ofChange heapLivesWrong)

/-- 'rostrumlaw14.HeapNobody': WHATEVER THE INPUT: true; the input reads as it did. -/
def heapNobodySpec : ChangeSpec := { name := "heapNobody", fn := fun _ => fun
  | [d1, d2] => { results := [.lit (.bool true)], args := [d1, d2] }
  | _ => none }
def heapNobodyRow : OpenClaim := { program := "ytlghnldlkbgajaa", sum := "a1177359f505f2a261b56cfd8900a473ba70e2fc76f1fa195c39691a963c7c85", func := "rostrum/rostrumlaw14.HeapNobody", spec := "heapNobody", unfollowed := true, recurses := true, apart := false }
def HeapNobodySaid : Prop := heapNobodyRow.holds Try.pinned (OpenSpec.ofChange heapNobodySpec)

/-- ITS FALSE NEIGHBOUR: 'it returns false'. Refute it at one input. -/
def heapNobodyWrong : ChangeSpec := { name := "heapNobody", fn := fun _ => fun
  | [d1, d2] => { results := [.lit (.bool false)], args := [d1, d2] }
  | _ => none }
def HeapNobodyWrongFalsely : Prop := heapNobodyRow.holds Try.pinned (OpenSpec.ofChange heapNobodyWrong)

/- THE SECOND FORM. 'bulk': how many values and letters a reading holds, each counted each time it is reached (what is shared counts as often as it is met; a slice's spare places count too). A statement '..UptoSaid' is the law's where the arguments, and the package variables that the reading takes, are together of bulk at most 1048576: NARROWER than '..Said'. Prove '..Said' where nothing that the law and all that it calls make is longer than what came in: it says more and counts as full. Else prove '..UptoSaid'. A law counts once. -/
mutual
def uptoBulk {H : Type} : DataW H → Nat
  | .lit (.string bytes) => bytes.length + 1
  | .lit _ => 1
  | .nil => 1
  | .ptr d => uptoBulk d + 1
  | .slice elems spare => uptoBulkAll elems + uptoBulkAll spare + 1
  | .agg parts => uptoBulkAll parts + 1
  | .iface _ d => uptoBulk d + 1
  | .map entries => uptoBulkEntries entries + 1
  | .held _ => 1
def uptoBulkAll {H : Type} : List (DataW H) → Nat
  | [] => 0
  | d :: r => uptoBulk d + uptoBulkAll r
def uptoBulkEntries {H : Type} : List (Lit × DataW H) → Nat
  | [] => 0
  | x :: r => uptoBulkEntry x + uptoBulkEntries r
def uptoBulkEntry {H : Type} : Lit × DataW H → Nat
  | (.string bytes, d) => bytes.length + uptoBulk d + 1
  | (_, d) => uptoBulk d + 1
 end
def uptoSmall : (H : Type) → List (DataW H) → Bool := fun _ ds => decide (uptoBulkAll ds ≤ 1048576)
def OpenSpec.upto (s : _root_.Go.ChangeSpec) : _root_.Go.OpenSpec := { _root_.Go.OpenSpec.ofChange s with cond := some uptoSmall }

/-- 'rostrumlaw14.HeapChain', WHERE WHAT IT READS IS OF BULK AT MOST 1048576: true; the input reads as it did. -/
def heapChainUptoRow : OpenClaim := { program := "ytlghnldlkbgajaa", sum := "a1177359f505f2a261b56cfd8900a473ba70e2fc76f1fa195c39691a963c7c85", func := "rostrum/rostrumlaw14.HeapChain", spec := "heapChain", unfollowed := true, recurses := true, apart := false, narrowed := true }
def HeapChainUptoSaid : Prop := heapChainUptoRow.holds Try.pinned (OpenSpec.upto heapChainSpec)

/-- 'rostrumlaw14.HeapStays', WHERE WHAT IT READS IS OF BULK AT MOST 1048576: true; the input reads as it did. -/
def heapStaysUptoRow : OpenClaim := { program := "ytlghnldlkbgajaa", sum := "a1177359f505f2a261b56cfd8900a473ba70e2fc76f1fa195c39691a963c7c85", func := "rostrum/rostrumlaw14.HeapStays", spec := "heapStays", unfollowed := true, recurses := true, apart := false, narrowed := true }
def HeapStaysUptoSaid : Prop := heapStaysUptoRow.holds Try.pinned (OpenSpec.upto heapStaysSpec)

/-- 'rostrumlaw14.HeapLive', WHERE WHAT IT READS IS OF BULK AT MOST 1048576: true; the input reads as it did. -/
def heapLiveUptoRow : OpenClaim := { program := "ytlghnldlkbgajaa", sum := "a1177359f505f2a261b56cfd8900a473ba70e2fc76f1fa195c39691a963c7c85", func := "rostrum/rostrumlaw14.HeapLive", spec := "heapLive", unfollowed := true, recurses := true, apart := false, narrowed := true }
def HeapLiveUptoSaid : Prop := heapLiveUptoRow.holds Try.pinned (OpenSpec.upto heapLiveSpec)

/-- 'rostrumlaw14.HeapLives', WHERE WHAT IT READS IS OF BULK AT MOST 1048576: true; the input reads as it did. -/
def heapLivesUptoRow : OpenClaim := { program := "ytlghnldlkbgajaa", sum := "a1177359f505f2a261b56cfd8900a473ba70e2fc76f1fa195c39691a963c7c85", func := "rostrum/rostrumlaw14.HeapLives", spec := "heapLives", unfollowed := true, recurses := true, apart := false, narrowed := true }
def HeapLivesUptoSaid : Prop := heapLivesUptoRow.holds Try.pinned (OpenSpec.upto heapLivesSpec)

/-- 'rostrumlaw14.HeapNobody', WHERE WHAT IT READS IS OF BULK AT MOST 1048576: true; the input reads as it did. -/
def heapNobodyUptoRow : OpenClaim := { program := "ytlghnldlkbgajaa", sum := "a1177359f505f2a261b56cfd8900a473ba70e2fc76f1fa195c39691a963c7c85", func := "rostrum/rostrumlaw14.HeapNobody", spec := "heapNobody", unfollowed := true, recurses := true, apart := false, narrowed := true }
def HeapNobodyUptoSaid : Prop := heapNobodyUptoRow.holds Try.pinned (OpenSpec.upto heapNobodySpec)

end Rows
end Go.Proofs.Ytlghnldlkbgajaa
