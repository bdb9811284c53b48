/- The law StmNobody. -/
import Derived.Test.YtkjliijcnllohaaHNobody2
namespace Go.Proofs.Ytkjliijcnllohaa.S
open Go.RowKit Go.Proofs.YtkjliijcnllohaaW.PrintWords Go.Proofs.YtkjliijcnllohaaW.PrintLast Go.Proofs.YtkjliijcnllohaaW.PrintMore
set_option linter.unusedVariables false
set_option linter.unusedSimpArgs false

theorem NoSp.below {w w' : World} {p : Value} {B : Nat} (h : NoSp w p) (hb : Below B w w') (hB : w.heap.size ≤ B) : NoSp w' p := by
  rcases h with rfl | ⟨t, rfl, hc⟩
  · exact .inl rfl
  · exact .inr ⟨t, rfl, (hb.block t (Nat.lt_of_lt_of_le (Array.getElem?_eq_some_iff.1 hc).1 hB)).trans hc⟩
theorem NoTx.below {w w' : World} {p : Value} {B : Nat} (h : NoTx w p) (hb : Below B w w') (hB : w.heap.size ≤ B) : NoTx w' p := by
  rcases h with rfl | ⟨t, rfl, hc⟩
  · exact .inl rfl
  · exact .inr ⟨t, rfl, (hb.block t (Nat.lt_of_lt_of_le (Array.getElem?_eq_some_iff.1 hc).1 hB)).trans hc⟩

/-- The two spaces that no call made, in a row. -/
structure TwoSp (w : World) (g : Nat) : Prop where
  all : ∀ i : Nat, i < 2 → ∃ p, w.cell? ⟨g, i, none⟩ = some p ∧ NoSp w p
structure TwoTx (w : World) (g : Nat) : Prop where
  all : ∀ i : Nat, i < 2 → ∃ p, w.cell? ⟨g, i, none⟩ = some p ∧ NoTx w p
theorem TwoSp.below {w w' : World} {g : Nat} {B : Nat} (h : TwoSp w g) (hb : Below B w w') (hB : w.heap.size ≤ B) : TwoSp w' g := ⟨fun i hi => by
  obtain ⟨p, hc, hn⟩ := h.all i hi
  exact ⟨p, (hb.cell (Nat.lt_of_lt_of_le (World.block_lt_of_cell? w _ hc) hB)).trans hc, hn.below hb hB⟩⟩
theorem TwoTx.below {w w' : World} {g : Nat} {B : Nat} (h : TwoTx w g) (hb : Below B w w') (hB : w.heap.size ≤ B) : TwoTx w' g := ⟨fun i hi => by
  obtain ⟨p, hc, hn⟩ := h.all i hi
  exact ⟨p, (hb.cell (Nat.lt_of_lt_of_le (World.block_lt_of_cell? w _ hc) hB)).trans hc, hn.below hb hB⟩⟩
theorem two_alloc {w : World} (a b : Obj) : ((w.alloc a).alloc b).heap[w.heap.size]? = some a ∧ ((w.alloc a).alloc b).heap[w.heap.size + 1]? = some b ∧ Below w.heap.size w ((w.alloc a).alloc b) := by
  have h1 : (w.alloc a).heap.size = w.heap.size + 1 := by simp
  refine ⟨?_, ?_, ((Below.refl _ w).alloc (Nat.le_refl _) _).alloc (by rw [h1]; exact Nat.le_succ _) _⟩
  · rw [Below.heap_alloc _ _ _ (by rw [h1]; exact Nat.lt_succ_self _)]
    exact Array.getElem?_push_size
  · rw [← h1]
    exact Array.getElem?_push_size
theorem two_sp (w : World) : TwoSp ((w.alloc (.cells #[.map none, .int .i64 0] 63)).alloc (.cells #[.pointer none, .pointer (some ⟨w.heap.size, 0, none⟩)] 23)) (w.heap.size + 1) := ⟨fun i hi => by
  obtain ⟨ha, hb, -⟩ := two_alloc (w := w) (.cells #[.map none, .int .i64 0] 63) (.cells #[.pointer none, .pointer (some ⟨w.heap.size, 0, none⟩)] 23)
  rcases i with _ | _ | i
  · exact ⟨_, (blk_cell hb 0).trans rfl, .inl rfl⟩
  · exact ⟨_, (blk_cell hb 1).trans rfl, .inr ⟨_, rfl, ha⟩⟩
  · omega⟩
theorem two_tx (w : World) : TwoTx ((w.alloc (.cells #[.pointer none, .int .i64 0, .int .i64 0, .map none, .map none] 67)).alloc (.cells #[.pointer none, .pointer (some ⟨w.heap.size, 0, none⟩)] 30)) (w.heap.size + 1) := ⟨fun i hi => by
  obtain ⟨ha, hb, -⟩ := two_alloc (w := w) (.cells #[.pointer none, .int .i64 0, .int .i64 0, .map none, .map none] 67) (.cells #[.pointer none, .pointer (some ⟨w.heap.size, 0, none⟩)] 30)
  rcases i with _ | _ | i
  · exact ⟨_, (blk_cell hb 0).trans rfl, .inl rfl⟩
  · exact ⟨_, (blk_cell hb 1).trans rfl, .inr ⟨_, rfl, ha⟩⟩
  · omega⟩

theorem one_read (w : World) : Reads (w.alloc (.cells #[.int .u8 1] 5)) (.slice (some ⟨w.heap.size, 0, none⟩) 1 1) [1] ∧ Below w.heap.size w (w.alloc (.cells #[.int .u8 1] 5)) := by
  refine ⟨⟨by decide, .inr ⟨⟨w.heap.size, 0, none⟩, 1, rfl, fun i hi => ?_⟩⟩, (Below.refl _ w).alloc (Nat.le_refl _) _⟩
  obtain rfl : i = 0 := by simp at hi; omega
  have hc : (w.alloc (.cells #[.int .u8 1] 5)).heap[w.heap.size]? = some (.cells #[.int .u8 1] 5) := Array.getElem?_push_size
  exact (blk_cell hc 0).trans rfl

set_option maxRecDepth 100000 in
theorem nobody_calls (name : ByteArray) (w : World) : Calls Try.prog 6 #[.string name] w fun e w' => e = .returned (.bool true) ∧ Below w.heap.size w w' := by
  have H0 := Aside0.mk (two_sp w)
  have HB0 := Aside0.mk (two_alloc (w := w) (.cells #[.map none, .int .i64 0] 63) (.cells #[.pointer none, .pointer (some ⟨w.heap.size, 0, none⟩)] 23)).2.2
  go_enter Try.func6, Try.ntmps6
  go_wp2_with fail
  go_loopw [15] (fun v15 wr => ∃ i : Nat, v15 = .int .i64 i ∧ Aside0 (i ≤ 2) ∧ Aside0 (TwoSp wr (w.heap.size + 1)) ∧ Aside0 (Below w.heap.size w wr)) (fun v15 wr => 2 - (intOf v15).toNat)
  case atStart => exact ⟨0, rfl, ⟨Nat.zero_le _⟩, H0, HB0⟩
  case round =>
    clear H0 HB0
    obtain ⟨i, rfl, hi, H, HB⟩ := hrel
    by_cases hlt : i < 2
    · have hlt' : ((i : Int) < 2) := by omega
      have hltb : decide ((i : Int) < 2) = true := decide_eq_true hlt'
      obtain ⟨p, hc, hn⟩ := H.out.all i hlt
      have HN := Aside0.mk hn
      clear hn
      go_wp2_with fail
      refine (begin_none HN.out).mono ?_
      rintro e w1 ⟨rfl, rfl⟩
      go_wp2_with fail
      refine (clock_none HN.out).mono ?_
      rintro e w1 ⟨rfl, rfl⟩
      go_wp2_with fail
      refine (slots_no HN.out).mono ?_
      rintro e w2 ⟨rfl, hb⟩
      have H2 := Aside0.mk (H.out.below hb (Nat.le_refl _))
      have HB2 := Aside0.mk (below_step HB.out hb)
      clear hb H HB HN
      go_wp2_with fail
      go_roundw
      case rel => exact ⟨i + 1, by go_num, ⟨hlt⟩, H2, HB2⟩
      case measure => simp [intOf]; omega
    · have hltb : decide ((i : Int) < 2) = false := decide_eq_false (by omega)
      have H1 := Aside0.mk (two_tx wr)
      have HB1 := Aside0.mk (below_step HB.out (two_alloc (w := wr) (.cells #[.pointer none, .int .i64 0, .int .i64 0, .map none, .map none] 67) (.cells #[.pointer none, .pointer (some ⟨wr.heap.size, 0, none⟩)] 30)).2.2)
      clear H HB
      go_wp2_with fail
      go_loopw [46] (fun v46 wq => ∃ j : Nat, v46 = .int .i64 j ∧ Aside0 (j ≤ 2) ∧ Aside0 (TwoTx wq (wr.heap.size + 1)) ∧ Aside0 (Below w.heap.size w wq)) (fun v46 wq => 2 - (intOf v46).toNat)
      case atStart => exact ⟨0, rfl, ⟨Nat.zero_le _⟩, H1, HB1⟩
      case round =>
        clear H1 HB1
        obtain ⟨j, rfl, hj, H2, HB2⟩ := hrel
        by_cases hlt2 : j < 2
        · have hlt2' : ((j : Int) < 2) := by omega
          have hltb2 : decide ((j : Int) < 2) = true := decide_eq_true hlt2'
          obtain ⟨p, hc, hn⟩ := H2.out.all j hlt2
          have HN := Aside0.mk hn
          clear hn
          go_wp2_with fail
          refine (get_no HN.out name).mono ?_
          rintro e w1 ⟨rfl, rfl⟩
          go_wp2_with fail
          refine (put_no HN.out name _).mono ?_
          rintro e w1 ⟨rfl, rfl⟩
          go_wp2_with fail
          refine (lock_no HN.out).mono ?_
          rintro e w1 ⟨rfl, rfl⟩
          go_wp2_with fail
          refine (check_no HN.out).mono ?_
          rintro e w1 ⟨rfl, rfl⟩
          go_wp2_with fail
          refine (publish_no HN.out).mono ?_
          rintro e w1 ⟨rfl, rfl⟩
          go_wp2_with fail
          refine (abort_none HN.out).mono ?_
          rintro e w1 ⟨rfl, rfl⟩
          go_wp2_with fail
          refine (drop_no HN.out).mono ?_
          rintro e w1 ⟨rfl, rfl⟩
          go_wp2_with fail
          refine (reads_no HN.out).mono ?_
          rintro e w2 ⟨rfl, hb⟩
          have H3 := Aside0.mk (H2.out.below hb (Nat.le_refl _))
          have HN2 := Aside0.mk (HN.out.below hb (Nat.le_refl _))
          have HB3 := Aside0.mk (below_step HB2.out hb)
          clear hb H2 HB2 HN
          go_wp2_with fail
          refine (writes_no HN2.out).mono ?_
          rintro e w3 ⟨rfl, hb⟩
          have H4 := Aside0.mk (H3.out.below hb (Nat.le_refl _))
          have HN3 := Aside0.mk (HN2.out.below hb (Nat.le_refl _))
          have HB4 := Aside0.mk (below_step HB3.out hb)
          clear hb H3 HB3 HN2
          go_wp2_with fail
          refine (phase_none HN3.out).mono ?_
          rintro e w1 ⟨rfl, rfl⟩
          clear HN3
          go_wp2_with fail
          go_roundw
          case rel => exact ⟨j + 1, by go_num, ⟨hlt2⟩, H4, HB4⟩
          case measure => simp [intOf]; omega
        · have hltb2 : decide ((j : Int) < 2) = false := decide_eq_false (by omega)
          clear H2
          go_wp2_with fail
          obtain ⟨hr, hb0⟩ := one_read wr
          have HB3 := Aside0.mk (below_step HB2.out hb0)
          clear hb0 HB2
          have HR := Aside0.mk hr
          clear hr
          refine (alone_calls (L := []) (A := none) (c := 0) (xs := [1]) ⟨Nat.zero_le _, fun i h => absurd h (Nat.not_lt_zero i)⟩ (by decide) HR.out).mono ?_
          rintro e w2 ⟨rfl, hb⟩
          have HB4 := Aside0.mk (below_step HB3.out hb)
          clear hb HB3 HR
          go_wp2_with fail
          go_returns
          exact ⟨rfl, HB4.out⟩
end Go.Proofs.Ytkjliijcnllohaa.S
