/- serial: all that a word leads to, in no heap; a fresh heap; the law SerialNobody. -/
import Derived.Test.YteidjfkgfmgfpaaGreatDoorHNew
namespace Go.Proofs.YteidjfkgfmgfpaaGreatDoor.S
open Go.RowKit Go.Proofs.YteidjfkgfmgfpaaGreatDoorW.PrintWords Go.Proofs.YteidjfkgfmgfpaaGreatDoorW.PrintLast Go.Proofs.YteidjfkgfmgfpaaGreatDoorW.PrintMore
set_option linter.unusedVariables false
set_option linter.unusedSimpArgs false

set_option maxRecDepth 100000 in
theorem dead_new {w : World} {g b : Nat} (h : HpNew w g b) : Calls Tryz.prog 9 #[.pointer (some ⟨g, 0, none⟩)] w fun e w' => e = .returned (.bool false) ∧ HpNew w' g b ∧ Below g w w' := by
  have H := Aside0.mk h
  clear h
  go_enter Tryz.func9, Tryz.ntmps9
  go_wp2_with fail
  refine (pop_new H.out).mono ?_
  rintro e w1 ⟨rfl, h1, h2⟩
  have H1 := Aside0.mk (And.intro h1 h2)
  clear h1 h2 H
  go_wp2_with fail
  go_returns
  exact ⟨rfl, H1.out⟩
set_option maxRecDepth 100000 in
theorem kind_new {w : World} {g b : Nat} (h : HpNew w g b) (x : Int) : Calls Tryz.prog 13 #[.pointer (some ⟨g, 0, none⟩), .int .i64 x] w fun e w' => e = .returned (.int .i64 0) ∧ Below w.heap.size w w' := by
  have H := Aside0.mk h
  have hf : Calls Tryz.prog 31 #[.pointer (some ⟨g, 0, none⟩), .int .i64 x] w fun e w' => ∃ v, e = .returned v ∧ NoObj w w' v := by
    have c0 : w.cell? ⟨g, 0, none⟩ = some (.map (some b)) := (blk_cell h.hp 0).trans rfl
    have hl : (Instr.lookup 24 (.map (some b)) (.int .i64 x) false).run Tryz.prog w = .ok (.pointer none) w := map_lookup (P := Tryz.prog) Tryz.underlying24 Tryz.underlying25 (Tryz.zeroValue78 w) h.mp x false
    clear h
    go_enter Tryz.func31, Tryz.ntmps31
    go_wp2_with fail
    refine (made_new H.out).mono ?_
    rintro e w1 ⟨rfl, rfl⟩
    go_wp2_with fail
    go_returns
    exact ⟨_, rfl, (Below.refl _ w1).alloc (Nat.le_refl _) _, _, rfl, Array.getElem?_push_size⟩
  have HF := Aside0.mk hf
  clear h hf H
  go_enter Tryz.func13, Tryz.ntmps13
  go_wp2_with fail
  refine HF.out.mono ?_
  rintro e w1 ⟨v, rfl, hb, t, rfl, ht⟩
  have HB := Aside0.mk hb
  clear hb
  have c0 : w1.cell? ⟨t, 0, none⟩ = some (.int .i64 0) := (blk_cell ht 0).trans rfl
  clear ht
  go_wp2_with fail
  go_returns
  exact ⟨rfl, HB.out⟩
set_option maxRecDepth 100000 in
theorem known_new {w : World} {g b : Nat} (h : HpNew w g b) : Calls Tryz.prog 10 #[.pointer (some ⟨g, 0, none⟩), .int .i64 1125899906842624] w fun e w' => e = .returned (.bool false) ∧ Below w.heap.size w w' := by
  have H := Aside0.mk h
  have hb : (bits BinOp.and .i64 1125899906842624 1 == 1) = false := by decide
  clear h
  go_enter Tryz.func10, Tryz.ntmps10
  go_wp2_with fail
  refine (kind_new H.out _).mono ?_
  rintro e w1 ⟨rfl, hb⟩
  have HB := Aside0.mk hb
  clear hb
  go_wp2_with fail
  go_returns
  exact ⟨rfl, HB.out⟩
set_option maxRecDepth 100000 in
theorem encode_word {w : World} {g b : Nat} (h : HpNew w g b) : Calls Tryz.prog 4 #[.pointer (some ⟨g, 0, none⟩), .int .i64 1125899906842624] w fun e w' => e = .returned (.tuple #[.slice none 0 0, .int .i64 141]) ∧ Below g w w' := by
  have H := Aside0.mk h
  clear h
  go_enter Tryz.func4, Tryz.ntmps4
  go_wp2_with fail
  refine (dead_new H.out).mono ?_
  rintro e w1 ⟨rfl, h1, h2⟩
  have H1 := Aside0.mk h1
  have HB1 := Aside0.mk h2
  clear h1 h2 H
  go_wp2_with fail
  refine (known_new H1.out).mono ?_
  rintro e w2 ⟨rfl, hb⟩
  have HB2 := Aside0.mk (HB1.out.trans (hb.mono (by have := blk_lt H1.out.hp; omega)))
  clear hb HB1 H1
  go_wp2_with fail
  go_returns
  exact ⟨rfl, HB2.out⟩
/-- The two heaps that no call made, in a row. -/
structure TwoH (w : World) (g : Nat) : Prop where
  all : ∀ i : Nat, i < 2 → ∃ p, w.cell? ⟨g, i, none⟩ = some p ∧ NoH w p
theorem TwoH.below {w w' : World} {g : Nat} {B : Nat} (h : TwoH w g) (hb : Below B w w') (hB : w.heap.size ≤ B) : TwoH w' g := ⟨fun i hi => by
  obtain ⟨p, hc, hn⟩ := h.all i hi
  exact ⟨p, (hb.cell (Nat.lt_of_lt_of_le (World.block_lt_of_cell? w _ hc) hB)).trans hc, hn.below hb hB⟩⟩
theorem two_alloc {w : World} (a b : Obj) : ((w.alloc a).alloc b).heap[w.heap.size]? = some a ∧ ((w.alloc a).alloc b).heap[w.heap.size + 1]? = some b ∧ Below w.heap.size w ((w.alloc a).alloc b) := by
  have h1 : (w.alloc a).heap.size = w.heap.size + 1 := by simp
  refine ⟨?_, ?_, ((Below.refl _ w).alloc (Nat.le_refl _) _).alloc (by rw [h1]; exact Nat.le_succ _) _⟩
  · rw [Below.heap_alloc _ _ _ (by rw [h1]; exact Nat.lt_succ_self _)]
    exact Array.getElem?_push_size
  · rw [← h1]
    exact Array.getElem?_push_size
def obH : Obj := .cells #[.map none, .int .i64 0, .slice none 0 0, .int .i64 0, .int .i64 0, .int .i64 0, .int .i64 0, .int .i64 0, .int .i64 0, .bool false] 29 (0, 0)
def obR (n : Nat) : Obj := .cells #[.pointer none, .pointer (some ⟨n, 0, none⟩)] 23 (0, 0)
theorem two_h (w : World) : TwoH ((w.alloc obH).alloc (obR w.heap.size)) (w.heap.size + 1) := ⟨fun i hi => by
  obtain ⟨ha, hb, -⟩ := two_alloc (w := w) obH (obR w.heap.size)
  rcases i with _ | _ | i
  · exact ⟨_, (blk_cell hb 0).trans rfl, .inl rfl⟩
  · exact ⟨_, (blk_cell hb 1).trans rfl, .inr ⟨_, rfl, ha⟩⟩
  · omega⟩
set_option maxRecDepth 100000 in
set_option maxHeartbeats 2000000 in
theorem nobody_calls (bs : Value) (n : Int) (w : World) : Calls Tryz.prog 3 #[bs, .int .i64 n] w fun e w' => e = .returned (.bool true) ∧ Below w.heap.size w w' := by
  have h0 := two_h w
  have hb0 := (two_alloc (w := w) obH (obR w.heap.size)).2.2
  unfold obH obR at h0 hb0
  have H0 := Aside0.mk h0
  have HB0 := Aside0.mk hb0
  clear h0 hb0
  go_enter Tryz.func3, Tryz.ntmps3
  go_wp2_with fail
  go_loopw [18] (fun v wr => ∃ j : Nat, v = .int .i64 j ∧ Aside0 (j ≤ 2) ∧ Aside0 (TwoH wr (w.heap.size + 1)) ∧ Aside0 (Below w.heap.size w wr)) (fun v wr => 2 - (intOf v).toNat)
  case atStart => exact ⟨0, rfl, ⟨Nat.zero_le _⟩, H0, HB0⟩
  case round =>
    clear H0 HB0
    obtain ⟨j, rfl, hj, H, HB⟩ := hrel
    by_cases hlt : j < 2
    · have hlt' : ((j : Int) < 2) := by omega
      have hltb : decide ((j : Int) < 2) = true := decide_eq_true hlt'
      obtain ⟨p, hc, hn⟩ := H.out.all j hlt
      have HN := Aside0.mk hn
      clear hn
      go_wp2_with fail
      refine (encode_no HN.out _).mono ?_
      rintro e w1 ⟨rfl, rfl⟩
      go_wp2_with fail
      refine (decode_no HN.out _).mono ?_
      rintro e w1 ⟨rfl, rfl⟩
      go_wp2_with fail
      refine (reach_no HN.out _).mono ?_
      rintro e w2 ⟨rfl, hb⟩
      have H2 := Aside0.mk (H.out.below hb (Nat.le_refl _))
      have HN2 := Aside0.mk (HN.out.below hb (Nat.le_refl _))
      have HB2 := Aside0.mk (below_step HB.out hb)
      clear hb H HB HN
      go_wp2_with fail
      refine (same_no HN2.out _ _).mono ?_
      rintro e w3 ⟨rfl, rfl⟩
      go_wp2_with fail
      go_roundw
      case rel => exact ⟨j + 1, by go_num, ⟨hlt⟩, H2, HB2⟩
      case measure => simp [intOf]; omega
    · have hltb : decide ((j : Int) < 2) = false := decide_eq_false (by omega)
      clear H
      go_wp2_with fail
      refine (room_ok _).mono ?_
      rintro e w2 ⟨g, b, rfl, ⟨hh, hg⟩, hb⟩
      have HN := Aside0.mk hh
      have HG := Aside0.mk hg
      have HB2 := Aside0.mk (below_step HB.out hb)
      have HS := Aside0.mk HB.out.size
      clear hb HB hh hg
      go_wp2_with fail
      refine (encode_word HN.out).mono ?_
      rintro e w3 ⟨rfl, hb⟩
      have HB3 := Aside0.mk (HB2.out.trans (hb.mono (Nat.le_trans HS.out HG.out)))
      clear hb HB2
      go_wp2_with fail
      go_returns
      exact ⟨rfl, HB3.out⟩
end Go.Proofs.YteidjfkgfmgfpaaGreatDoor.S
