/- The law HeapNobody. -/
import Derived.Test.YtlghnldlkbgajaaHNob2
import Derived.Test.YtlghnldlkbgajaaHChainW
namespace Go.Proofs.Ytlghnldlkbgajaa.S
open Go.RowKit Go.Proofs.YtlghnldlkbgajaaW.PrintWords Go.Proofs.YtlghnldlkbgajaaW.PrintLast Go.Proofs.YtlghnldlkbgajaaW.PrintMore
set_option linter.unusedVariables false
set_option linter.unusedSimpArgs false

/-- The two heaps that no call made, in a row. -/
structure TwoH (w : World) (g : Nat) : Prop where
  all : ∀ i : Nat, i < 2 → ∃ p, w.cell? ⟨g, i, none⟩ = some p ∧ NoH w p
theorem TwoH.below {w w' : World} {g : Nat} {B : Nat} (h : TwoH w g) (hb : Below B w w') (hB : w.heap.size ≤ B) : TwoH w' g := ⟨fun i hi => by
  obtain ⟨p, hc, hn⟩ := h.all i hi
  exact ⟨p, (hb.cell (Nat.lt_of_lt_of_le (World.block_lt_of_cell? w _ hc) hB)).trans hc, hn.below hb hB⟩⟩
theorem two_alloc {w : World} (a b : Obj) : ((w.alloc a).alloc b).heap[w.heap.size]? = some a ∧ ((w.alloc a).alloc b).heap[w.heap.size + 1]? = some b ∧ Below w.heap.size w ((w.alloc a).alloc b) := by
  have h1 : (w.alloc a).heap.size = w.heap.size + 1 := by simp
  refine ⟨?_, ?_, ((Below.refl _ w).alloc (Nat.le_refl _) _).alloc (by rw [h1]; exact Nat.le_succ _) _⟩
  · rw [Below.heap_alloc _ _ _ (by rw [h1]; exact Nat.lt_succ_self _)]
    exact Array.getElem?_push_size
  · rw [← h1]
    exact Array.getElem?_push_size
def obH : Obj := .cells #[.map none, .int .i64 0, .slice none 0 0, .int .i64 0, .int .i64 0, .int .i64 0, .int .i64 0, .int .i64 0, .int .i64 0, .bool false] 66 (0, 0)
def obR (n : Nat) : Obj := .cells #[.pointer none, .pointer (some ⟨n, 0, none⟩)] 23 (0, 0)
theorem two_h (w : World) : TwoH ((w.alloc obH).alloc (obR w.heap.size)) (w.heap.size + 1) := ⟨fun i hi => by
  obtain ⟨ha, hb, -⟩ := two_alloc (w := w) obH (obR w.heap.size)
  rcases i with _ | _ | i
  · exact ⟨_, (blk_cell hb 0).trans rfl, .inl rfl⟩
  · exact ⟨_, (blk_cell hb 1).trans rfl, .inr ⟨_, rfl, ha⟩⟩
  · omega⟩

set_option maxRecDepth 100000 in
set_option maxHeartbeats 2000000 in
theorem nobody_calls (kind i : Int) (w : World) : Calls Try.prog 7 #[.int .i64 kind, .int .i64 i] w fun e w' => e = .returned (.bool true) ∧ Below w.heap.size w w' := by
  have h0 := two_h w
  have hb0 := (two_alloc (w := w) obH (obR w.heap.size)).2.2
  unfold obH obR at h0 hb0
  have H0 := Aside0.mk h0
  have HB0 := Aside0.mk hb0
  clear h0 hb0
  go_enter Try.func7, Try.ntmps7
  go_wp2_with fail
  go_loopw [17] (fun v wr => ∃ j : Nat, v = .int .i64 j ∧ Aside0 (j ≤ 2) ∧ Aside0 (TwoH wr (w.heap.size + 1)) ∧ Aside0 (Below w.heap.size w wr)) (fun v wr => 2 - (intOf v).toNat)
  case atStart => exact ⟨0, rfl, ⟨Nat.zero_le _⟩, H0, HB0⟩
  case round =>
    clear H0 HB0
    obtain ⟨j, rfl, hj, H, HB⟩ := hrel
    by_cases hlt : j < 2
    · have hlt' : ((j : Int) < 2) := by omega
      have hltb : decide ((j : Int) < 2) = true := decide_eq_true hlt'
      obtain ⟨p, hc, hn⟩ := H.out.all j hlt
      have HN := Aside0.mk hn
      clear hn
      go_wp2_with fail
      refine (make_no HN.out kind _).mono ?_
      rintro e w1 ⟨rfl, rfl⟩
      go_wp2_with fail
      refine (text_no HN.out kind _).mono ?_
      rintro e w1 ⟨rfl, rfl⟩
      go_wp2_with fail
      refine (field_no HN.out _ i).mono ?_
      rintro e w1 ⟨rfl, rfl⟩
      go_wp2_with fail
      refine (set_no HN.out _ i _).mono ?_
      rintro e w1 ⟨rfl, rfl⟩
      go_wp2_with fail
      refine (push_no HN.out _).mono ?_
      rintro e w1 ⟨rfl, rfl⟩
      go_wp2_with fail
      refine (pop_no HN.out _).mono ?_
      rintro e w1 ⟨rfl, rfl⟩
      go_wp2_with fail
      refine (setroot_no HN.out _ _).mono ?_
      rintro e w1 ⟨rfl, rfl⟩
      go_wp2_with fail
      refine (collect_no HN.out _).mono ?_
      rintro e w1 ⟨rfl, rfl⟩
      go_wp2_with fail
      refine (kind_no HN.out _).mono ?_
      rintro e w2 ⟨rfl, hb⟩
      have H2 := Aside0.mk (H.out.below hb (Nat.le_refl _))
      have HN2 := Aside0.mk (HN.out.below hb (Nat.le_refl _))
      have HB2 := Aside0.mk (below_step HB.out hb)
      clear hb H HB HN
      go_wp2_with fail
      refine (len_no HN2.out _).mono ?_
      rintro e w3 ⟨rfl, hb⟩
      have H3 := Aside0.mk (H2.out.below hb (Nat.le_refl _))
      have HN3 := Aside0.mk (HN2.out.below hb (Nat.le_refl _))
      have HB3 := Aside0.mk (below_step HB2.out hb)
      clear hb H2 HB2 HN2
      go_wp2_with fail
      refine (roots_no HN3.out).mono ?_
      rintro e w4 ⟨rfl, rfl⟩
      go_wp2_with fail
      refine (string_no HN3.out _).mono ?_
      rintro e w5 ⟨rfl, hb⟩
      have H5 := Aside0.mk (H3.out.below hb (Nat.le_refl _))
      have HN5 := Aside0.mk (HN3.out.below hb (Nat.le_refl _))
      have HB5 := Aside0.mk (below_step HB3.out hb)
      clear hb H3 HB3 HN3
      go_wp2_with fail
      refine (root_no HN5.out _).mono ?_
      rintro e w6 ⟨rfl, rfl⟩
      go_wp2_with fail
      refine (counts_no HN5.out).mono ?_
      rintro e w7 ⟨rfl, hb⟩
      have H7 := Aside0.mk (H5.out.below hb (Nat.le_refl _))
      have HB7 := Aside0.mk (below_step HB5.out hb)
      clear hb H5 HB5 HN5
      go_wp2_with fail
      go_roundw
      case rel => exact ⟨j + 1, by go_num, ⟨hlt⟩, H7, HB7⟩
      case measure => simp [intOf]; omega
    · have hltb : decide ((j : Int) < 2) = false := decide_eq_false (by omega)
      clear H
      go_wp2_with fail
      refine (chain_calls _).mono ?_
      rintro e w2 ⟨rfl, hb⟩
      have HB4 := Aside0.mk (below_step HB.out hb)
      clear hb HB
      go_wp2_with fail
      go_returns
      exact ⟨rfl, HB4.out⟩
end Go.Proofs.Ytlghnldlkbgajaa.S
