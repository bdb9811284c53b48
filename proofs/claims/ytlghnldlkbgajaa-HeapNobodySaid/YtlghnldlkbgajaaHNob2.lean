/- heap: Counts of a heap that no call made; what the law makes. -/
import Derived.Test.YtlghnldlkbgajaaHNob
namespace Go.Proofs.Ytlghnldlkbgajaa.S
open Go.RowKit Go.Proofs.YtlghnldlkbgajaaW.PrintWords Go.Proofs.YtlghnldlkbgajaaW.PrintLast Go.Proofs.YtlghnldlkbgajaaW.PrintMore
set_option linter.unusedVariables false
set_option linter.unusedSimpArgs false

set_option maxRecDepth 100000 in
theorem counts_no {w : World} {p : Value} (h : NoH w p) : Calls Try.prog 18 #[p] w fun e w' => e = .returned (.agg #[.int .i64 0, .int .i64 0, .int .i64 0, .int .i64 0]) ∧ Below w.heap.size w w' := by
  have hu47 := Try.underlying47
  rcases h with rfl | ⟨t, rfl, hb⟩
  · go_enter Try.func18, Try.ntmps18
    go_wp2_with fail

    go_returns
    exact ⟨rfl, (Below.refl _ _).alloc (Nat.le_refl _) _⟩
  · have hl : t < w.heap.size := (Array.getElem?_eq_some_iff.1 hb).1
    have c3 : w.cell? ⟨t, 5, none⟩ = some (.int .i64 0) := (blk_cell hb 5).trans rfl
    have c4 : w.cell? ⟨t, 6, none⟩ = some (.int .i64 0) := (blk_cell hb 6).trans rfl
    have c5 : w.cell? ⟨t, 7, none⟩ = some (.int .i64 0) := (blk_cell hb 7).trans rfl
    have c6 : w.cell? ⟨t, 8, none⟩ = some (.int .i64 0) := (blk_cell hb 8).trans rfl
    clear hb
    go_enter Try.func18, Try.ntmps18
    go_wp2_with fail
    go_region_held3 (fun w' => w'.cell? ⟨t, 5, none⟩ = some (.int .i64 0) ∧ w'.cell? ⟨t, 6, none⟩ = some (.int .i64 0) ∧ w'.cell? ⟨t, 7, none⟩ = some (.int .i64 0) ∧ w'.cell? ⟨t, 8, none⟩ = some (.int .i64 0)) (first | exact ⟨(World.cell?_alloc_lt w _ _ hl).trans c3, (World.cell?_alloc_lt w _ _ hl).trans c4, (World.cell?_alloc_lt w _ _ hl).trans c5, (World.cell?_alloc_lt w _ _ hl).trans c6⟩) (fail)

    go_wp2_with fail
    go_returns
    exact ⟨rfl, below_drew1 ((Below.refl _ _).alloc (Nat.le_refl _) _)⟩
end Go.Proofs.Ytlghnldlkbgajaa.S
