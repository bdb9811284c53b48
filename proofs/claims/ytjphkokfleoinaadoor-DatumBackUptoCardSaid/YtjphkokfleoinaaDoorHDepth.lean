
/- datum.walk with the function values that Depth and Size hand over to it; Depth and Size. -/
import Derived.Test.YtjphkokfleoinaaDoorDx0
import Derived.Test.YtjphkokfleoinaaDoorHRight2
namespace Go.Proofs.YtjphkokfleoinaaDoor.D
open Go.RowKit Go.Proofs.YtjphkokfleoinaaDoorW.PrintWords Go.Proofs.YtjphkokfleoinaaDoorW.PrintLast Go.Proofs.YtjphkokfleoinaaDoorW.PrintMore
attribute [local go_sem] max2_int min2_int max_two min_two max_three min_three max_four min_four
set_option linter.unusedVariables false
set_option linter.unusedSimpArgs false

/-- A captured whole number: its block. -/
def At (W : World) (g : Nat) (v : Int) : Prop := W.heap[g]? = some (.cells #[.int .i64 v] 3 (0, 0))
end Go.Proofs.YtjphkokfleoinaaDoor.D
