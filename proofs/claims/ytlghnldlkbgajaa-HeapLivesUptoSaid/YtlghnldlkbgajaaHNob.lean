
/- heap: a heap that no call made: nil, or one whose map is nil. -/
import Derived.Test.YtlghnldlkbgajaaDx1
import Derived.Handy
import Derived.WalkSpells
namespace Go.Proofs.Ytlghnldlkbgajaa.S
open Go.RowKit Go.Proofs.YtlghnldlkbgajaaW.PrintWords Go.Proofs.YtlghnldlkbgajaaW.PrintLast Go.Proofs.YtlghnldlkbgajaaW.PrintMore
set_option linter.unusedVariables false
set_option linter.unusedSimpArgs false

/-- A heap that no call made. -/
def NoH (w : World) (p : Value) : Prop := p = .pointer none ∨ ∃ t, p = .pointer (some ⟨t, 0, none⟩) ∧ w.heap[t]? = some (.cells #[.map none, .int .i64 0, .slice none 0 0, .int .i64 0, .int .i64 0, .int .i64 0, .int .i64 0, .int .i64 0, .int .i64 0, .bool false] 66 (0, 0))
/-- A new object of no kind. -/
def NoObj (w w' : World) (v : Value) : Prop := Below w.heap.size w w' ∧ ∃ t, v = .pointer (some ⟨t, 0, none⟩) ∧ w'.heap[t]? = some (.cells #[.int .i64 0, .slice none 0 0, .string ⟨#[]⟩, .bool false, .bool false] 78 (0, 0))
end Go.Proofs.Ytlghnldlkbgajaa.S
