-- written by wip/pr.py (the kit's print, with hand-proved functions beside it) for this claim
import Derived.Test.YtlghnldlkbgajaaDx0
namespace Go.Proofs.Ytlghnldlkbgajaa.D
open Go.RowKit Go.Proofs.YtlghnldlkbgajaaW.PrintWords Go.Proofs.YtlghnldlkbgajaaW.PrintLast Go.Proofs.YtlghnldlkbgajaaW.PrintMore
attribute [local go_sem] max2_int min2_int max_two min_two max_three min_three max_four min_four   -- for this text's walks alone
set_option linter.unusedVariables false
set_option linter.unusedSimpArgs false

-- NOT PRINTED: function 8 (heap_New)

-- NOT PRINTED: function 31 (heap_Heap_made)

-- NOT PRINTED: function 32 (heap_Heap_there)

-- NOT PRINTED: function 9 (heap_Heap_Push)

-- NOT PRINTED: function 33 (heap_fixed)

/-- A state of type 78 at block g of W; what its slices lead to came in by w0. -/
def IsS78 (w0 W : World) (g : Nat) (f0 : Int) (f1 : List Int) (f2 : ByteArray) (f3 : Bool) (f4 : Bool) : Prop := ∃ A1 c1, W.heap[g]? = some (.cells #[.int .i64 f0, .slice A1 f1.length c1, .string f2, .bool f3, .bool f4] 78 (0, 0)) ∧ w0.heap.size ≤ g ∧ Kd.C (Kd.int .i64) w0 A1 f1.length f1
/-! ### heap_object_cells: function 56 -/
def heap_object_cells.f (s0_0 : Int) (s0_1 : List Int) (s0_2 : ByteArray) (s0_3 : Bool) (s0_4 : Bool) : Option (Int × Int × ByteArray × Bool × Bool) := some (wrap64 ((wrap64 (1 + (s0_1.length : Int))) + (wrap64 (Int.tdiv (wrap64 ((s0_2.size : Int) + 7)) 8))), s0_0, s0_2, s0_3, s0_4)
/-! ### api_Word_94: function 94 -/
def api_Word_94.f (a0 : Int) : Option (Bool) := some (a0 != a0)
/-! ### api_Word_84: function 84 -/
def api_Word_84.f (a0 : Int) (a1 : Int) : Option (Bool) := (api_Word_94.f a0).bind fun t101 => (if t101 = true then ((api_Word_94.f a1).bind fun t102 => (if t102 = true then (some (decide (a0 < a1))) else (some true))) else (some (decide (a0 < a1))))
end Go.Proofs.Ytlghnldlkbgajaa.D
