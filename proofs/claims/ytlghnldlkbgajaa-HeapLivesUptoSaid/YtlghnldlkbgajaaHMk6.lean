
/- heap: Counts, whatever the heap. -/
import Derived.Test.YtlghnldlkbgajaaHMk5
namespace Go.Proofs.Ytlghnldlkbgajaa.S
open Go.RowKit Go.Proofs.YtlghnldlkbgajaaW.PrintWords Go.Proofs.YtlghnldlkbgajaaW.PrintLast Go.Proofs.YtlghnldlkbgajaaW.PrintMore
set_option linter.unusedVariables false
set_option linter.unusedSimpArgs false
set_option maxRecDepth 100000 in
theorem counts_any {w : World} {g b B : Nat} {R : Option Addr} {rc : Nat} {L : List OW} {h : HH} (H : HW w g b B R rc L h) : Calls Try.prog 18 #[ptr g] w fun e w' => e = .returned (.agg #[.int .i64 h.minor, .int .i64 h.major, .int .i64 h.has0, .int .i64 h.has1]) ∧ Below w.heap.size w w' := by
  have hu47 := Try.underlying47
  have hl : g < w.heap.size := blk_lt H.hp
  have c3 := H.c5
  have c4 := H.c6
  have c5 := H.c7
  have c6 := H.c8
  have hc : ∀ o i, (w.alloc o).cell? ⟨g, i, none⟩ = w.cell? ⟨g, i, none⟩ := fun o i => by
    have hp := H.hp
    rw [(blk_cell ((heap_alloc_old w o hl).trans hp) i), blk_cell hp i]
  have HC := Aside0.mk hc
  clear H hc
  unfold ptr
  go_enter Try.func18, Try.ntmps18
  go_wp2_with fail
  go_region_held3 (fun w' => w'.cell? ⟨g, 5, none⟩ = some (.int .i64 h.has0) ∧ w'.cell? ⟨g, 6, none⟩ = some (.int .i64 h.has1) ∧ w'.cell? ⟨g, 7, none⟩ = some (.int .i64 h.minor) ∧ w'.cell? ⟨g, 8, none⟩ = some (.int .i64 h.major)) (first | exact ⟨(HC.out _ _).trans c3, (HC.out _ _).trans c4, (HC.out _ _).trans c5, (HC.out _ _).trans c6⟩) (fail)
  go_wp2_with fail
  go_returns
  exact ⟨rfl, below_drew1 ((Below.refl _ _).alloc (Nat.le_refl _) _)⟩
end Go.Proofs.Ytlghnldlkbgajaa.S
