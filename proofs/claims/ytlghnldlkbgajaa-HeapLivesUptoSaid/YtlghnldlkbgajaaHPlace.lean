
/- heap: fixed, Clone, cells, place. -/
import Derived.Test.YtlghnldlkbgajaaHHeap
namespace Go.Proofs.Ytlghnldlkbgajaa.S
open Go.RowKit Go.Proofs.YtlghnldlkbgajaaW.PrintWords Go.Proofs.YtlghnldlkbgajaaW.PrintLast Go.Proofs.YtlghnldlkbgajaaW.PrintMore
set_option linter.unusedVariables false
set_option linter.unusedSimpArgs false

def shapes : Value := .agg #[.int .i64 1, .int .i64 2, .int .i64 2, .int .i64 (-1), .int .i64 6, .int .i64 3, .int .i64 7, .int .i64 2, .int .i64 8, .int .i64 4]
set_option maxRecDepth 100000 in
theorem shape0 (w : World) : (Instr.index 96 shapes (.int .i64 0)).run Try.prog w = .ok (.agg #[.int .i64 1, .int .i64 2]) w := by
  unfold shapes
  simp [Instr.index, run_underlying Try.underlying96, go_sem]
  try rfl
set_option maxRecDepth 100000 in
theorem shape1 (w : World) : (Instr.index 96 shapes (.int .i64 1)).run Try.prog w = .ok (.agg #[.int .i64 2, .int .i64 (-1)]) w := by
  unfold shapes
  simp [Instr.index, run_underlying Try.underlying96, go_sem]
  try rfl
set_option maxRecDepth 100000 in
theorem fixed1 (w : World) : Calls Try.prog 33 #[.int .i64 1] w fun e w' => e = .returned (.tuple #[.int .i64 2, .bool true]) ∧ Below w.heap.size w w' := by
  have hu95 := Try.underlying95
  have hs0 := shape0
  have hs1 := shape1
  unfold shapes at hs0 hs1
  go_enter Try.func33, Try.ntmps33
  go_wp2_with fail
  go_loopw [12] (fun v wr => v = .int .i64 0 ∧ Aside0 (Below w.heap.size w wr)) (fun v wr => 2 - (intOf v).toNat)
  case atStart => exact ⟨rfl, ⟨Below.refl _ _⟩⟩
  case round =>
    obtain ⟨rfl, HB⟩ := hrel
    go_wp2_with fail
    go_returns
    exact ⟨rfl, HB.out.alloc HB.out.size _⟩
set_option maxRecDepth 100000 in
theorem fixed2 (w : World) : Calls Try.prog 33 #[.int .i64 2] w fun e w' => e = .returned (.tuple #[.int .i64 (-1), .bool true]) ∧ Below w.heap.size w w' := by
  have hu95 := Try.underlying95
  have hs0 := shape0
  have hs1 := shape1
  unfold shapes at hs0 hs1
  go_enter Try.func33, Try.ntmps33
  go_wp2_with fail
  go_loopw [12] (fun v wr => (v = .int .i64 0 ∨ v = .int .i64 1) ∧ Aside0 (Below w.heap.size w wr)) (fun v wr => 2 - (intOf v).toNat)
  case atStart => exact ⟨.inl rfl, ⟨Below.refl _ _⟩⟩
  case round =>
    obtain ⟨hv, HB⟩ := hrel
    rcases hv with rfl | rfl
    · have HB2 := Aside0.mk (HB.out.alloc HB.out.size (.cells #[.int .i64 1, .int .i64 2] 95))
      go_wp2_with fail
      go_roundw
      case rel => exact ⟨.inr (by go_num), HB2⟩
      case measure => simp [intOf]
    · go_wp2_with fail
      go_returns
      exact ⟨rfl, HB.out.alloc HB.out.size _⟩

theorem word_info : (Try.prog.info? 28).map (fun i => (i.zero, i.size, i.bytes)) = some (some (.int .i64 0), 1, 8) := by kernel_rfl
set_option maxRecDepth 100000 in
set_option maxHeartbeats 1000000 in
theorem clone_ok {w : World} {a : Addr} {c : Nat} {xs : List Int} (hlen : xs.length ≤ 1000) (hne : 0 < xs.length) (hc : ∀ i, i < xs.length → w.cell? (a.add i) = some (.int .i64 (xs.getD i 0))) :
    Calls Try.prog 35 #[.slice (some a) xs.length c] w fun e w' => ∃ fb fc, e = .returned (.slice (some ⟨fb, 0, none⟩) xs.length fc) ∧ Row w' fb xs ∧ w.heap.size ≤ fb ∧ Below w.heap.size w w' := by
  obtain ⟨i0, hi, hz0, hz1, hz2⟩ := info_parts word_info
  have q33 : ∀ (w : World) (a : Option Addr) (n c n' c' : Nat), (binOp .eql 33 (.slice a n c) (.slice none n' c')).run Try.prog w = .ok (.bool a.isNone) w := fun w a n c n' c' => Lib.run_eql_slice_nil w _ _ a n c n' c' Try.underlying33
  have A := Aside0.mk hc
  clear hc
  go_enter Try.func35, Try.ntmps35
  go_wp2_with (at_builtin; refine wpList_append_own _ rfl _ _ 33 rfl w.heap.size 28 i0 (.int .i64 0) 1 8 Try.underlying33 hi hz0 hz1 hz2 rfl (by decide) _ _ _ rfl (World.ownsRow_made w #[] 0 (Nat.le_refl _) (Nat.zero_le _) rfl) a xs.length c (xs.map (Value.int .i64)) rfl ?qc1 ?qc2 ?qc3 ?qc4 ?qc5 ?qc6 ?_)
  case qc1 => simp
  case qc2 =>
    intro j u hj
    have hjn : j < xs.length := by
      have := (List.getElem?_eq_some_iff.1 hj).1
      simpa using this
    refine Lib.cell?_alloc_some _ ?_
    rw [A.out j hjn]
    have e : (xs.map (Value.int .i64))[j]? = some (Value.int .i64 (xs.getD j 0)) := by simp [List.getD, List.getElem?_eq_getElem (show j < xs.length by omega)]
    rw [e] at hj
    exact hj
  case qc3 => intro u hu; obtain ⟨x, _, rfl⟩ := List.mem_map.1 hu; rfl
  case qc4 => unfold maxLen; omega
  case qc5 => omega
  case qc6 => simp
  intro v' w1 hown hgrow hnil
  have HO := Aside0.mk hown
  have HG := Aside0.mk hgrow
  clear hown hgrow hnil
  go_wp2
  go_returns
  have hown : w1.ownsRow w.heap.size 28 1 v' xs.length (xs.map (Value.int .i64)) := by simpa using HO.out
  rcases hown.2 with ⟨h1, h2⟩ | ⟨g, cap, cur, h1, h2, h3, h4, h5, h6, h7⟩
  · omega
  · subst h1
    refine ⟨g, cap, rfl, ⟨cur, h3, fun i hi => ?_⟩, by omega, ((Below.refl _ w).alloc (Nat.le_refl _) _).grown HG.out (by simp) (by intro k hk; simp [Value.ownBlock] at hk; omega)⟩
    have h8 : (cur.toList.take xs.length)[i]? = (xs.map (Value.int .i64))[i]? := by simpa using congrArg (·[i]?) h7
    rw [List.getElem?_take, if_pos hi] at h8
    rw [← Array.getElem?_toList, h8]
    simp [List.getD, List.getElem?_eq_getElem hi]

/-- x, put into the map under the next word, beside n cells more. -/
def Ob.named (x : Ob) (nx : Int) : Ob := ⟨nx, x.t, x.kind, x.fs, x.fb, x.fc⟩
theorem put_new {m : List (Int × Value)} {s : Int} (h : get? m s = none) (v : Value) : put m s v = m ++ [(s, v)] := by
  unfold put; rw [h]; rfl
end Go.Proofs.Ytlghnldlkbgajaa.S
