/- stm: Begin, Clock, Abort, Put, Get. -/
import Derived.Test.YtkjliijcnllohaaHClone
import Derived.WalkSpells
namespace Go.Proofs.Ytkjliijcnllohaa.S
open Go.RowKit Go.Proofs.YtkjliijcnllohaaW.PrintWords Go.Proofs.YtkjliijcnllohaaW.PrintLast Go.Proofs.YtkjliijcnllohaaW.PrintMore
set_option linter.unusedVariables false
set_option linter.unusedSimpArgs false

set_option maxRecDepth 100000 in
set_option maxHeartbeats 1000000 in
theorem begin_calls {w : World} {s bm : Nat} {clock : Int} {S : List Ent} (h : SpAt w s bm clock S) :
    Calls Try.prog 9 #[ptr s] w fun e w' => ∃ t br bw, e = .returned (.tuple #[ptr t, .int .i64 0]) ∧ TxAt w' t s clock 0 br bw ∧ MapIs w' br [] ∧ MapIs w' bw [] ∧ (w.heap.size ≤ t ∧ w.heap.size ≤ br ∧ w.heap.size ≤ bw ∧ br ≠ bw) ∧ Fr [] w w' := by
  have c0 := h.c0
  have c1 : ∀ o o' : Obj, ((w.alloc o).alloc o').cell? ⟨s, 1, none⟩ = some (.int .i64 clock) := fun o o' => (World.cell?_alloc_lt _ _ _ (by have := h.lt; simp; omega)).trans ((World.cell?_alloc_lt _ _ _ h.lt).trans h.c1)
  have c1' := h.c1
  have hmm := @run_makeMap Try.prog
  have hmn : (binOp .eql 61 (.map (some bm)) (.map none)).run Try.prog w = .ok (.bool false) w := run_eql_map_nil w 61 9 78 (some bm) Try.underlying61
  unfold ptr
  clear h
  go_enter Try.func9, Try.ntmps9
  go_wp2
  go_returns
  refine ⟨w.heap.size + 2, w.heap.size, w.heap.size + 1, rfl, ?_, ?_, ?_, by omega, ?_⟩
  · have h := blk_new ((w.alloc (.map #[] 0)).alloc (.map #[] 0)) (.cells #[ptr s, .int .i64 clock, .int .i64 0, .map (some w.heap.size), .map (some (w.heap.size + 1))] 67)
    rw [show ((w.alloc (.map #[] 0)).alloc (.map #[] 0)).heap.size = w.heap.size + 2 from by simp] at h
    exact h
  · exact ((MapIs.new w).fr (Fr.alloc [] _ _) (by simp)).fr (Fr.alloc [] _ _) (by simp)
  · have h := MapIs.new (w.alloc (.map #[] 0))
    rw [show (w.alloc (.map #[] 0)).heap.size = w.heap.size + 1 from by simp] at h
    exact h.fr (Fr.alloc [] _ _) (by simp)
  · exact ((Fr.alloc [] w _).trans (Fr.alloc [] _ _)).trans (Fr.alloc [] _ _)

set_option maxRecDepth 100000 in
theorem clock_calls {w : World} {s bm : Nat} {clock : Int} {S : List Ent} (h : SpAt w s bm clock S) :
    Calls Try.prog 20 #[ptr s] w fun e w' => e = .returned (.int .i64 clock) ∧ w' = w := by
  have c1 := h.c1
  unfold ptr
  clear h
  go_enter Try.func20, Try.ntmps20
  go_wp2
  go_returns
  exact ⟨rfl, rfl⟩
end Go.Proofs.Ytkjliijcnllohaa.S
