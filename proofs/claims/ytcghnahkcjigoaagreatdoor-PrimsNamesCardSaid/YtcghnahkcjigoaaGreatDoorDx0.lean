-- written by wip/pr.py (the kit's print, with hand-proved functions beside it) for this claim
import Derived.Test.YtcghnahkcjigoaaGreatDoorProg
import Derived.Below
import Derived.Deep.Draws
import Derived.Deep.AppendLies
import Derived.Maps.AppendAt
import Derived.OwnWalk
import Derived.Laws.BytesArg
import Derived.Laws.MakeOwn
import Derived.Laws.OwnMore
import Derived.Deep.OwnRows
import Derived.Tactics
import Derived.Lib.ConvBytes
import Derived.Laws.Slices
import Derived.WalkKit
import Derived.KernelRfl
import Derived.RowKit3
import Derived.Deep.LoopGhost
import Derived.Deep.QuietTactic
import Derived.BigQuiet
import Derived.WideLaws
import Derived.Deep.DeepCutAuto
import Derived.Deep.CutBlock
import Derived.Deep.RegionHeld3
import Derived.Laws.Rows
import Derived.Lib.AppendStr
import Derived.ArgAppend
import Derived.Laws.IdiomCopy
import Derived.OrdersHeld
import Derived.Laws.BitsLemmas
import Derived.RowKit
import Derived.Test.YtcghnahkcjigoaaGreatDoorWWords
import Derived.Test.YtcghnahkcjigoaaGreatDoorWLast
import Derived.Test.YtcghnahkcjigoaaGreatDoorWTab
import Derived.Test.YtcghnahkcjigoaaGreatDoorWFour
import Derived.Test.YtcghnahkcjigoaaGreatDoorWQPut
import Derived.Test.YtcghnahkcjigoaaGreatDoorWApart
import Derived.Test.YtcghnahkcjigoaaGreatDoorWArr
import Derived.Test.YtcghnahkcjigoaaGreatDoorWZeros
import Derived.Test.YtcghnahkcjigoaaGreatDoorWFoot
import Derived.Test.YtcghnahkcjigoaaGreatDoorWKept
import Derived.Test.YtcghnahkcjigoaaGreatDoorWShare
import Derived.Test.YtcghnahkcjigoaaGreatDoorWN
import Derived.Test.YtcghnahkcjigoaaGreatDoorWFootNe
import Derived.Test.YtcghnahkcjigoaaGreatDoorWAt
import Derived.Test.YtcghnahkcjigoaaGreatDoorWEqStruct
import Derived.Test.YtcghnahkcjigoaaGreatDoorWRepsOne
import Derived.Test.YtcghnahkcjigoaaGreatDoorWInv
import Derived.Test.YtcghnahkcjigoaaGreatDoorWInvWords
import Derived.Test.YtcghnahkcjigoaaGreatDoorWGuard
import Derived.Test.YtcghnahkcjigoaaGreatDoorWNEv
import Derived.Test.YtcghnahkcjigoaaGreatDoorWMore
namespace Go.Proofs.YtcghnahkcjigoaaGreatDoor.D
open Go.RowKit Go.Proofs.YtcghnahkcjigoaaGreatDoorW.PrintWords Go.Proofs.YtcghnahkcjigoaaGreatDoorW.PrintLast Go.Proofs.YtcghnahkcjigoaaGreatDoorW.PrintMore
attribute [local go_sem] max2_int min2_int max_two min_two max_three min_three max_four min_four   -- for this text's walks alone
set_option linter.unusedVariables false
set_option linter.unusedSimpArgs false



def errW : Option Int → Value
  | none => .nilIface
  | some c => .iface 0 (.int .i64 c)
theorem errW_none : errW none = .nilIface := rfl
theorem errW_some (c : Int) : errW (some c) = .iface 0 (.int .i64 c) := rfl

theorem info9 : (Tryz.prog.info? 9).map (fun i => (i.zero, i.size, i.bytes)) = some (some (.string ⟨#[]⟩), 1, 16) := by kernel_rfl
-- the values' own types

end Go.Proofs.YtcghnahkcjigoaaGreatDoor.D
