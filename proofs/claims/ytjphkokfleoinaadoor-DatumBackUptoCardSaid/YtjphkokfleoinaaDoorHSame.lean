
/- datum.Same: the contract of the two functions that call each other (datum.Same and slices.EqualFunc over it). -/
import Derived.Test.YtjphkokfleoinaaDoorDx0
import Derived.Handy
namespace Go.Proofs.YtjphkokfleoinaaDoor.D
open Go.RowKit Go.Proofs.YtjphkokfleoinaaDoorW.PrintWords Go.Proofs.YtjphkokfleoinaaDoorW.PrintLast Go.Proofs.YtjphkokfleoinaaDoorW.PrintMore
set_option linter.unusedVariables false
set_option linter.unusedSimpArgs false

theorem rd_mem {l : List S24} {i : Nat} (h : i < l.length) : rd_T24 l i ∈ l := by
  simp only [rd_T24, Int.toNat_natCast, List.getD_eq_getElem?_getD, List.getElem?_eq_getElem h, Option.getD_some]
  exact List.getElem_mem h

end Go.Proofs.YtjphkokfleoinaaDoor.D
