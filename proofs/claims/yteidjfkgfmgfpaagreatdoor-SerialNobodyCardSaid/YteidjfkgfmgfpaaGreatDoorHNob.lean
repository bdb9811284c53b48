/- serial: of heaps that no call made, and of a fresh one. -/
import Derived.Test.YteidjfkgfmgfpaaGreatDoorPSerialNobodyx0
import Derived.Test.YteidjfkgfmgfpaaGreatDoorHMap
import Derived.Handy
import Derived.WalkSpells
namespace Go.Proofs.YteidjfkgfmgfpaaGreatDoor.S
open Go.RowKit Go.Proofs.YteidjfkgfmgfpaaGreatDoorW.PrintWords Go.Proofs.YteidjfkgfmgfpaaGreatDoorW.PrintLast Go.Proofs.YteidjfkgfmgfpaaGreatDoorW.PrintMore
set_option linter.unusedVariables false
set_option linter.unusedSimpArgs false

/-- A heap that no call made. -/
def NoH (w : World) (p : Value) : Prop := p = .pointer none ∨ ∃ t, p = .pointer (some ⟨t, 0, none⟩) ∧ w.heap[t]? = some (.cells #[.map none, .int .i64 0, .slice none 0 0, .int .i64 0, .int .i64 0, .int .i64 0, .int .i64 0, .int .i64 0, .int .i64 0, .bool false] 29 (0, 0))
theorem NoH.below {w w' : World} {p : Value} {B : Nat} (h : NoH w p) (hb : Below B w w') (hB : w.heap.size ≤ B) : NoH w' p := by
  rcases h with rfl | ⟨t, rfl, hc⟩
  · exact .inl rfl
  · exact .inr ⟨t, rfl, (hb.block t (Nat.lt_of_lt_of_le (Array.getElem?_eq_some_iff.1 hc).1 hB)).trans hc⟩

set_option maxRecDepth 100000 in
theorem made_no {w : World} {p : Value} (h : NoH w p) : Calls Tryz.prog 47 #[p] w fun e w' => e = .returned (.bool false) ∧ w' = w := by
  rcases h with rfl | ⟨t, rfl, hb⟩
  · go_enter Tryz.func47, Tryz.ntmps47
    go_wp2
    go_returns
    exact ⟨rfl, rfl⟩
  · have c0 : w.cell? ⟨t, 0, none⟩ = some (.map none) := (blk_cell hb 0).trans rfl
    have hmn : (binOp .neq 24 (.map none) (.map none)).run Tryz.prog w = .ok (.bool false) w := run_neq_map_nil w 24 25 78 none Tryz.underlying24
    clear hb
    go_enter Tryz.func47, Tryz.ntmps47
    go_wp2
    go_returns
    exact ⟨rfl, rfl⟩
set_option maxRecDepth 100000 in
theorem pop_no {w : World} {p : Value} (h : NoH w p) (x : Int) : Calls Tryz.prog 24 #[p, .int .i64 x] w fun e w' => e = .returned (.int .i64 2) ∧ w' = w := by
  have H := Aside0.mk h
  clear h
  go_enter Tryz.func24, Tryz.ntmps24
  go_wp2_with fail
  refine (made_no H.out).mono ?_
  rintro e w1 ⟨rfl, rfl⟩
  go_wp2_with fail
  go_returns
  exact ⟨rfl, rfl⟩
/-- A new object of no kind. -/
def NoObj (w w' : World) (v : Value) : Prop := Below w.heap.size w w' ∧ ∃ t, v = .pointer (some ⟨t, 0, none⟩) ∧ w'.heap[t]? = some (.cells #[.int .i64 0, .slice none 0 0, .string ⟨#[]⟩, .bool false, .bool false] 77 (0, 0))
set_option maxRecDepth 100000 in
theorem find_no {w : World} {p : Value} (h : NoH w p) (x : Int) : Calls Tryz.prog 31 #[p, .int .i64 x] w fun e w' => ∃ v, e = .returned v ∧ NoObj w w' v := by
  have H := Aside0.mk h
  clear h
  go_enter Tryz.func31, Tryz.ntmps31
  go_wp2_with fail
  refine (made_no H.out).mono ?_
  rintro e w1 ⟨rfl, rfl⟩
  go_wp2_with fail
  go_returns
  exact ⟨_, rfl, (Below.refl _ w1).alloc (Nat.le_refl _) _, _, rfl, Array.getElem?_push_size⟩
set_option maxRecDepth 100000 in
theorem kind_no {w : World} {p : Value} (h : NoH w p) (x : Int) : Calls Tryz.prog 13 #[p, .int .i64 x] w fun e w' => e = .returned (.int .i64 0) ∧ Below w.heap.size w w' := by
  have H := Aside0.mk h
  clear h
  go_enter Tryz.func13, Tryz.ntmps13
  go_wp2_with fail
  refine (find_no H.out x).mono ?_
  rintro e w1 ⟨v, rfl, hb, t, rfl, ht⟩
  have HB := Aside0.mk hb
  clear hb
  have c0 : w1.cell? ⟨t, 0, none⟩ = some (.int .i64 0) := (blk_cell ht 0).trans rfl
  clear ht
  go_wp2_with fail
  go_returns
  exact ⟨rfl, HB.out⟩
set_option maxRecDepth 100000 in
theorem dead_no {w : World} {p : Value} (h : NoH w p) : Calls Tryz.prog 9 #[p] w fun e w' => e = .returned (.bool true) ∧ w' = w := by
  have H := Aside0.mk h
  clear h
  go_enter Tryz.func9, Tryz.ntmps9
  go_wp2_with fail
  refine (pop_no H.out 0).mono ?_
  rintro e w1 ⟨rfl, rfl⟩
  go_wp2_with fail
  go_returns
  exact ⟨rfl, rfl⟩
set_option maxRecDepth 100000 in
theorem encode_no {w : World} {p : Value} (h : NoH w p) (x : Int) : Calls Tryz.prog 4 #[p, .int .i64 x] w fun e w' => e = .returned (.tuple #[.slice none 0 0, .int .i64 2]) ∧ w' = w := by
  have H := Aside0.mk h
  clear h
  go_enter Tryz.func4, Tryz.ntmps4
  go_wp2_with fail
  refine (dead_no H.out).mono ?_
  rintro e w1 ⟨rfl, rfl⟩
  go_wp2_with fail
  go_returns
  exact ⟨rfl, rfl⟩
set_option maxRecDepth 100000 in
theorem decode_no {w : World} {p : Value} (h : NoH w p) (b : Value) : Calls Tryz.prog 5 #[p, b] w fun e w' => e = .returned (.tuple #[.int .i64 0, .int .i64 2]) ∧ w' = w := by
  have H := Aside0.mk h
  clear h
  go_enter Tryz.func5, Tryz.ntmps5
  go_wp2_with fail
  refine (dead_no H.out).mono ?_
  rintro e w1 ⟨rfl, rfl⟩
  go_wp2_with fail
  go_returns
  exact ⟨rfl, rfl⟩
set_option maxRecDepth 100000 in
theorem same_no {w : World} {p : Value} (h : NoH w p) (x y : Int) : Calls Tryz.prog 7 #[p, .int .i64 x, p, .int .i64 y] w fun e w' => e = .returned (.bool false) ∧ w' = w := by
  have H := Aside0.mk h
  clear h
  go_enter Tryz.func7, Tryz.ntmps7
  go_wp2_with fail
  refine (dead_no H.out).mono ?_
  rintro e w1 ⟨rfl, rfl⟩
  go_wp2_with fail
  go_returns
  exact ⟨rfl, rfl⟩
/-- A graph of no object. -/
structure GrAt (w : World) (g mb : Nat) (p : Value) : Prop where
  gr : w.heap[g]? = some (.cells #[p, .slice none 0 0, .map (some mb)] 46 (0, 0))
  mp : MapIs w mb []
set_option maxRecDepth 100000 in
theorem meet_no {w : World} {p : Value} {g mb : Nat} (h : NoH w p) (hg : GrAt w g mb p) (x : Int) : Calls Tryz.prog 29 #[.pointer (some ⟨g, 0, none⟩), .int .i64 x] w fun e w' => e = .returned (.tuple #[]) ∧ Below w.heap.size w w' := by
  have H := Aside0.mk h
  have c0 : w.cell? ⟨g, 0, none⟩ = some p := (blk_cell hg.gr 0).trans rfl
  have c2 : w.cell? ⟨g, 2, none⟩ = some (.map (some mb)) := (blk_cell hg.gr 2).trans rfl
  have hl : (Instr.lookup 44 (.map (some mb)) (.int .i64 x) true).run Tryz.prog w = .ok (.tuple #[.int .i64 0, .bool false]) w := map_lookup (P := Tryz.prog) Tryz.underlying44 Tryz.underlying25 (Tryz.zeroValue3 w) hg.mp x true
  clear h hg
  go_enter Tryz.func29, Tryz.ntmps29
  go_wp2_with fail
  refine (kind_no H.out x).mono ?_
  rintro e w1 ⟨rfl, hb⟩
  have HB := Aside0.mk hb
  clear hb
  go_wp2_with fail
  go_returns
  exact ⟨rfl, HB.out⟩
end Go.Proofs.YteidjfkgfmgfpaaGreatDoor.S
