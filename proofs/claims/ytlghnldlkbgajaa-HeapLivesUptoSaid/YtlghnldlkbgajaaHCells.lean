
/- heap: cells; the words of a heap, sorted; one object's turning, said of lists. -/
import Derived.Test.YtlghnldlkbgajaaHRun2
import Derived.Test.YtlghnldlkbgajaaHKeys
namespace Go.Proofs.Ytlghnldlkbgajaa.S
open Go.RowKit Go.Proofs.YtlghnldlkbgajaaW.PrintWords Go.Proofs.YtlghnldlkbgajaaW.PrintLast Go.Proofs.YtlghnldlkbgajaaW.PrintMore
set_option linter.unusedVariables false
set_option linter.unusedSimpArgs false

def PO.cells (o : PO) : Int := 1 + (o.fs.length : Int) + (((o.text.size + 7) / 8 : Nat) : Int)
set_option maxRecDepth 100000 in
theorem cells_any {w : World} {x : OW} (hn : x.o.fs.length ≤ 1000000) (hs : x.o.text.size ≤ 1000000) (h : w.heap[x.t]? = some x.obj) :
    Calls Try.prog 56 #[ptr x.t] w fun e w' => e = .returned (.int .i64 x.o.cells) ∧ Fr [] w w' := by
  unfold OW.obj at h
  have c1 : w.cell? ⟨x.t, 1, none⟩ = some (.slice x.A x.o.fs.length x.c) := (blk_cell h 1).trans rfl
  have c2 : w.cell? ⟨x.t, 2, none⟩ = some (.string x.o.text) := (blk_cell h 2).trans rfl
  unfold ptr PO.cells
  clear h
  generalize x.o.fs.length = n at *
  generalize x.o.text = s at *
  generalize x.t = t at *
  generalize x.A = A at *
  generalize x.c = c at *
  go_enter Try.func56, Try.ntmps56
  go_wp2_with fail
  go_region_held3 (fun w' => w'.cell? ⟨t, 1, none⟩ = some (.slice A n c) ∧ w'.cell? ⟨t, 2, none⟩ = some (.string s)) (first | exact ⟨c1, c2⟩) (fail)
  go_wp2_with fail
  go_returns
  refine ⟨?_, Fr.drew _ _⟩
  show Ending.returned (.int .i64 (IntKind.i64.wrap (IntKind.i64.wrap (1 + (n : Int)) + IntKind.i64.wrap ((IntKind.i64.wrap ((s.size : Int) + 7)).tdiv 8)))) = _
  have e1 : IntKind.i64.wrap ((s.size : Int) + 7) = (s.size : Int) + 7 := by rw [IntKind.wrap_i64]; omega
  have e2 : ((s.size : Int) + 7).tdiv 8 = (((s.size + 7) / 8 : Nat) : Int) := by
    rw [show ((s.size : Int) + 7) = ((s.size + 7 : Nat) : Int) from by omega]; rfl
  rw [e1, e2]
  have e3 : IntKind.i64.wrap (((s.size + 7) / 8 : Nat) : Int) = (((s.size + 7) / 8 : Nat) : Int) := by rw [IntKind.wrap_i64]; omega
  have e4 : IntKind.i64.wrap (1 + (n : Int)) = 1 + (n : Int) := by rw [IntKind.wrap_i64]; omega
  rw [e3, e4]
  congr 2
  rw [IntKind.wrap_i64]
  omega
end Go.Proofs.Ytlghnldlkbgajaa.S
