/- prims.prims: all primitives, in an array. -/
import Derived.Test.YtcghnahkcjigoaaGreatDoorHPrims0
namespace Go.Proofs.YtcghnahkcjigoaaGreatDoor.D
open Go.RowKit Go.Proofs.YtcghnahkcjigoaaGreatDoorW.PrintWords Go.Proofs.YtcghnahkcjigoaaGreatDoorW.PrintLast Go.Proofs.YtcghnahkcjigoaaGreatDoorW.PrintMore
set_option linter.unusedVariables false
set_option linter.unusedSimpArgs false

theorem build_to {P : Program} {ops : Array Oper} {rest : List Oper} {o : Oper} {a : Act} {w : World} {Q : Exit → Act → World → Prop} (hg : o.guard = none) (t : TypeId) (parts : Array (Nat × Operand)) (ho : o.op = .build t parts) (v : Array Value)
    (hf : P.built t (parts.map fun (i, x) => (i, a.eval x)).toList = some v) (h : wpList P ops Q rest (a.put o.dst (.agg v)) w) : wpList P ops Q (o :: rest) a w := by
  refine wpList_build hg t parts ho (by rw [hf]; rfl) ?_
  rw [hf]
  exact h
set_option maxRecDepth 1000000 in
set_option maxHeartbeats 4000000 in
theorem prims_calls (w : World) : Calls Tryz.prog 8 #[] w fun e w' => e = .returned (.agg PV.toArray) ∧ Below w.heap.size w w' := by
  go_enter Tryz.func8, Tryz.ntmps8
  go_wp2_with (first
    | ((with_reducible refine gate_ (.build 29 _) rfl ?_); refine build_to rfl 29 _ rfl PV.toArray (by kernel_rfl) ?_)
    | ((with_reducible refine gate_ (.store 29 _ _) rfl ?_); refine wpList_store_row rfl 29 _ _ rfl w.heap.size PV.toArray rfl rfl _ _ (heap_alloc_new w _) (by kernel_rfl) (by kernel_rfl) (by kernel_rfl) ?_))
  refine bodyPost_ret (results_cell_row Tryz.results8 _ _ w.heap.size 29 PV.toArray (0, 0) _ rfl (setRow_heap _ _ _ _ _ _ (heap_alloc_new w _)) Tryz.underlying29 rfl (by kernel_rfl)) rfl ?_
  have hb : Below w.heap.size w (w.alloc (Obj.cells Tryz.zeroCells29 29)) := (Below.refl _ w).alloc (Nat.le_refl _) _
  exact ⟨rfl, hb.os, hb.tape, hb.output, by simp, fun k hk => (setRow_other _ _ _ _ (by omega)).trans (hb.block k hk)⟩
end Go.Proofs.YtcghnahkcjigoaaGreatDoor.D
