/- bytes.Clone; what a row of bytes reads as. -/
import Derived.Test.YtkjliijcnllohaaHEnd
import Derived.Shelf.Slices.Clone
namespace Go.Proofs.Ytkjliijcnllohaa.S
open Go.RowKit Go.Proofs.YtkjliijcnllohaaW.PrintWords Go.Proofs.YtkjliijcnllohaaW.PrintLast Go.Proofs.YtkjliijcnllohaaW.PrintMore
set_option linter.unusedVariables false
set_option linter.unusedSimpArgs false

/-- What a []byte reads as, wherever it lies. -/
def Reads (w : World) (v : Value) (xs : List Int) : Prop :=
  xs.length ≤ 140737488355328 ∧ ((v = .slice none 0 0 ∧ xs = []) ∨ ∃ a c, v = .slice (some a) xs.length c ∧ ∀ i, i < xs.length → w.cell? (a.add i) = some (.int .u8 (xs.getD i 0)))
theorem RowAt.reads {w : World} {v : Value} {xs : List Int} (h : RowAt w v xs) : Reads w v xs := by
  refine ⟨h.1, ?_⟩
  rcases h.2 with h | ⟨g, c, cur, rfl, hb, hc⟩
  · exact .inl h
  · exact .inr ⟨_, _, rfl, fun i hi => by
      have := blk_cell hb i
      rw [hc i hi] at this
      rw [show (⟨g, 0, none⟩ : Addr).add i = ⟨g, i, none⟩ from by unfold Addr.add; split <;> simp_all]
      exact this⟩
theorem Reads.below {B : Nat} {w w' : World} {v : Value} {xs : List Int} (h : Reads w v xs) (hb : Below B w w') (hB : w.heap.size ≤ B) : Reads w' v xs := by
  refine ⟨h.1, ?_⟩
  rcases h.2 with h | ⟨a, c, rfl, hc⟩
  · exact .inl h
  · exact .inr ⟨a, c, rfl, fun i hi => by
      have h1 := hc i hi
      have hlt := World.block_lt_of_cell? w _ h1
      rw [hb.cell (by omega)]; exact h1⟩
theorem Fr.ofBelow {w w' : World} (h : Below w.heap.size w w') (T : List Nat) : Fr T w w' :=
  ⟨h.os, h.tape, h.output, h.size, fun k hk _ => h.block k hk, fun k c fz hk => (h.block k (blk_lt hk)).trans hk, fun k c ty fz hk => ⟨c, (h.block k (blk_lt hk)).trans hk⟩⟩

theorem byte_info : (Try.prog.info? 5).map (fun i => (i.zero, i.size, i.bytes)) = some (some (.int .u8 0), 1, 1) := by kernel_rfl
set_option maxRecDepth 100000 in
set_option maxHeartbeats 1000000 in
theorem clone_calls {w : World} {v : Value} {xs : List Int} (h : Reads w v xs) :
    Calls Try.prog 35 #[v] w fun e w' => ∃ v', e = .returned v' ∧ RowAt w' v' xs ∧ Below w.heap.size w w' := by
  obtain ⟨i0, hi, hz0, hz1, hz2⟩ := info_parts byte_info
  have q22 : ∀ (w : World) (a : Option Addr) (n c n' c' : Nat), (binOp .eql 22 (.slice a n c) (.slice none n' c')).run Try.prog w = .ok (.bool a.isNone) w := fun w a n c n' c' => Lib.run_eql_slice_nil w _ _ a n c n' c' Try.underlying22
  rcases h.2 with ⟨rfl, rfl⟩ | ⟨a, c, rfl, hc⟩
  · go_enter Try.func35, Try.ntmps35
    go_wp2
    go_returns
    exact ⟨_, rfl, RowAt.nil _, Below.refl _ _⟩
  · have A := Aside0.mk hc
    have hl := h.1
    clear hc h
    go_enter Try.func35, Try.ntmps35
    go_wp2_with (at_builtin; refine wpList_append_own _ rfl _ _ 22 rfl w.heap.size 5 i0 (.int .u8 0) 1 1 Try.underlying22 hi hz0 hz1 hz2 rfl (by decide) _ _ _ rfl (World.ownsRow_made w #[] 0 (Nat.le_refl _) (Nat.zero_le _) rfl) a xs.length c (xs.map (Value.int .u8)) rfl ?qc1 ?qc2 ?qc3 ?qc4 ?qc5 ?qc6 ?_)
    case qc1 => simp
    case qc2 =>
      intro j u hj
      have hjn : j < xs.length := by
        have := (List.getElem?_eq_some_iff.1 hj).1
        simpa using this
      refine Lib.cell?_alloc_some _ ?_
      rw [A.out j hjn]
      have e : (xs.map (Value.int .u8))[j]? = some (Value.int .u8 (xs.getD j 0)) := by simp [List.getD, List.getElem?_eq_getElem (show j < xs.length by omega)]
      rw [e] at hj
      exact hj
    case qc3 => intro u hu; obtain ⟨x, _, rfl⟩ := List.mem_map.1 hu; rfl
    case qc4 => unfold maxLen; omega
    case qc5 => omega
    case qc6 => simp
    intro v' w1 hown hgrow hnil
    have HO := Aside0.mk hown
    have HG := Aside0.mk hgrow
    clear hown hgrow hnil
    go_wp2
    go_returns
    refine ⟨v', rfl, ⟨hl, ?_⟩, ((Below.refl _ w).alloc (Nat.le_refl _) _).grown HG.out (by simp) (by intro k hk; simp [Value.ownBlock] at hk; omega)⟩
    have hown : w1.ownsRow w.heap.size 5 1 v' xs.length (xs.map (Value.int .u8)) := by simpa using HO.out
    rcases hown.2 with ⟨h1, h2⟩ | ⟨g, cap, cur, h1, h2, h3, h4, h5, h6, h7⟩
    · exact .inl ⟨h1, List.length_eq_zero_iff.1 h2⟩
    · refine .inr ⟨g, cap, cur, h1, h3, fun i hi => ?_⟩
      have h8 : (cur.toList.take xs.length)[i]? = (xs.map (Value.int .u8))[i]? := by simpa using congrArg (·[i]?) h7
      rw [List.getElem?_take, if_pos hi] at h8
      rw [← Array.getElem?_toList, h8]
      simp [List.getD, List.getElem?_eq_getElem hi]
end Go.Proofs.Ytkjliijcnllohaa.S
