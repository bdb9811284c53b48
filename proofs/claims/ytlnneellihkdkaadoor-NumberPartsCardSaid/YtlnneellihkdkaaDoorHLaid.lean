/- From what the rows list to what the walks ask of the library's variables; the world of the witness. -/
import Derived.Test.YtlnneellihkdkaaDoorRows
import Derived.Test.YtlnneellihkdkaaDoorHCan
import Derived.WalkKit
import Derived.ProofKit
import Derived.OpenShut
import Derived.ChangeOld
import Derived.Below
import Derived.SizedLaws
import Derived.LaidMore
import Derived.LaidHandle
import Derived.Stop.Joined
import Derived.Stop.LaidErr
namespace Go.Proofs.YtlnneellihkdkaaDoor.D
open Go Go.RowKit
set_option linter.unusedVariables false

abbrev laid5 : List (String × DataW Unit) := [("math/bits.deBruijn32tab", Rows.laid_math_bits_deBruijn32tab), ("math/bits.deBruijn64tab", Rows.laid_math_bits_deBruijn64tab), ("internal/strconv.uint64pow10", Rows.laid_internal_strconv_uint64pow10), ("strconv.ErrRange", Rows.laid_strconv_ErrRange), ("strconv.ErrSyntax", Rows.laid_strconv_ErrSyntax)]
theorem own : ownKnob Tryd.prog.godebug = none := by kernel_rfl
theorem laidOut : laidOutB Tryd.prog = true := by kernel_rfl
theorem door_met (os : Os) (args : Array Value) : laidMetH Tryd.prog laid5 ((World.doorLaid Tryd.prog 62 os).forCall (fun _ _ => 0) ⟨#[], args, []⟩).memory :=
  laidMetH_of_parts3 (fuel := 8) (laidMet_of_run' 8 (by kernel_rfl) (by kernel_rfl)) (by kernel_rfl) (by kernel_rfl)

theorem gRangeType : (Tryd.prog.globals[1]?).map (·.type) = some 36 := by kernel_rfl
theorem gPowType : (Tryd.prog.globals[2]?).map (·.type) = some 121 := by kernel_rfl
theorem cells119 : Tryd.prog.cellsOf 119 = 1 := by kernel_rfl
theorem cells9 : Tryd.prog.cellsOf 9 = 1 := by kernel_rfl
theorem cells65 : Tryd.prog.cellsOf 65 = 1 := by kernel_rfl
theorem cells121 : Tryd.prog.cellsOf 121 = 20 := by kernel_rfl
theorem star : "*" ++ "errors.errorString" = "*errors.errorString" := by decide
theorem row117 (u : TypeId) (h : Tryd.prog.typeName? 3 u = some "*errors.errorString") : u = 117 :=
  typeName_ptr_named (nm := "errors.errorString") (by rw [star]; kernel_rfl) (by kernel_rfl) (by decide) u (by rw [star]; exact h)
theorem laidW_of {W : World} (h : laidMetH Tryd.prog laid5 W) : LaidW W := by
  rw [MakeChecks.laidMetH_plain _ _ _ (by kernel_rfl)] at h
  obtain ⟨a1, s1, hv1, -, -, -⟩ := laid_sentinel h.tail.tail.tail gRange gRangeType Tryd.underlying36 row117 Tryd.underlying117 Tryd.underlying119 rfl rfl Tryd.underlying9 cells119 cells9
  exact ⟨⟨_, _, hv1⟩, Lib.tabIs_of_head gPow gPowType Tryd.underlying121 Tryd.underlying65 cells65 cells121 h.tail.tail⟩
end Go.Proofs.YtlnneellihkdkaaDoor.D
