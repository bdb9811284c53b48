/- stm: what Slots, Reads and Writes say of a space or a transaction that no call made. -/
import Derived.Test.YtkjliijcnllohaaHKeys0
import Derived.LoopN
namespace Go.Proofs.Ytkjliijcnllohaa.S
open Go.RowKit Go.Proofs.YtkjliijcnllohaaW.PrintWords Go.Proofs.YtkjliijcnllohaaW.PrintLast Go.Proofs.YtkjliijcnllohaaW.PrintMore
set_option linter.unusedVariables false
set_option linter.unusedSimpArgs false

theorem behind_alloc {w w1 : World} {v : Value} {ty : TypeId} (h : Below (w.alloc (.cells #[v] ty)).heap.size (w.alloc (.cells #[v] ty)) w1) :
    w1.cell? ⟨w.heap.size, 0, none⟩ = some v ∧ Below w.heap.size w w1 := by
  have hsz : (w.alloc (.cells #[v] ty)).heap.size = w.heap.size + 1 := by simp
  refine ⟨(h.cell (p := ⟨w.heap.size, 0, none⟩) (by rw [hsz]; exact Nat.lt_succ_self _)).trans (by simp), ((Below.refl _ w).alloc (Nat.le_refl _) _).trans (h.mono (by rw [hsz]; exact Nat.le_succ _))⟩

set_option maxRecDepth 100000 in
theorem rising_nil (f : Value) (w : World) : Calls Try.prog 43 #[.map none, f] w fun e w' => e = .returned (.tuple #[]) ∧ Below w.heap.size w w' := by
  go_enter Try.func43, Try.ntmps43
  go_wp2_with fail
  refine (keys65 none w).mono ?_
  rintro e w1 ⟨rfl, rfl⟩
  go_wp2_with fail
  refine (sorted0_65 w).mono ?_
  rintro e w1 ⟨rfl, hb⟩
  have H := Aside0.mk hb
  clear hb
  go_wp2_with fail
  refine wp_loop_once ?_
  go_wp2_with fail
  go_returns
  exact ⟨rfl, H.out⟩

set_option maxRecDepth 100000 in
theorem rising45_nil (f : Value) (w : World) : Calls Try.prog 45 #[.map none, f] w fun e w' => e = .returned (.tuple #[]) ∧ Below w.heap.size w w' := by
  go_enter Try.func45, Try.ntmps45
  go_wp2_with fail
  refine (keys66 none w).mono ?_
  rintro e w1 ⟨rfl, rfl⟩
  go_wp2_with fail
  refine (sorted0_66 w).mono ?_
  rintro e w1 ⟨rfl, hb⟩
  have H := Aside0.mk hb
  clear hb
  go_wp2_with fail
  refine wp_loop_once ?_
  go_wp2_with fail
  go_returns
  exact ⟨rfl, H.out⟩

set_option maxRecDepth 100000 in
/-- Reads of a transaction that no call made: nil. -/
theorem reads_no {w : World} {p : Value} (h : NoTx w p) : Calls Try.prog 28 #[p] w fun e w' => e = .returned (.slice none 0 0) ∧ Below w.heap.size w w' := by
  rcases h with rfl | ⟨t, rfl, hb⟩
  · go_enter Try.func28, Try.ntmps28
    go_wp2
    go_returns
    exact ⟨rfl, Below.refl _ _⟩
  · have c0 : w.cell? ⟨t, 3, none⟩ = some (.map none) := (blk_cell hb 3).trans rfl
    clear hb
    go_enter Try.func28, Try.ntmps28
    go_wp2_with fail
    refine (keys48 none w).mono ?_
    rintro e w1 ⟨rfl, rfl⟩
    go_wp2_with fail
    refine (sorted0_48 w).mono ?_
    rintro e w1 ⟨rfl, hb⟩
    have H := Aside0.mk hb
    clear hb
    go_wp2_with fail
    go_returns
    exact ⟨rfl, H.out⟩

set_option maxRecDepth 100000 in
/-- Writes of a transaction that no call made: nil. -/
theorem writes_no {w : World} {p : Value} (h : NoTx w p) : Calls Try.prog 23 #[p] w fun e w' => e = .returned (.slice none 0 0) ∧ Below w.heap.size w w' := by
  rcases h with rfl | ⟨t, rfl, hb⟩
  · go_enter Try.func23, Try.ntmps23
    go_wp2
    go_returns
    exact ⟨rfl, Below.refl _ _⟩
  · have hl : t < w.heap.size := (Array.getElem?_eq_some_iff.1 hb).1
    have c0 : w.cell? ⟨t, 4, none⟩ = some (.map none) := (blk_cell hb 4).trans rfl
    have c1 : (w.alloc (.cells #[.slice none 0 0] 29)).cell? ⟨t, 4, none⟩ = some (.map none) := (World.cell?_alloc_lt w _ _ hl).trans c0
    clear hb
    go_enter Try.func23, Try.ntmps23
    go_wp2_with fail
    refine (rising_nil _ _).mono ?_
    rintro e w1 ⟨rfl, hw⟩
    obtain ⟨hcell, hbb⟩ := behind_alloc hw
    clear hw
    have H := Aside0.mk hbb
    clear hbb
    go_wp2_with fail
    go_returns
    exact ⟨rfl, H.out⟩

set_option maxRecDepth 100000 in
/-- Slots of a space that no call made: nil. -/
theorem slots_no {w : World} {p : Value} (h : NoSp w p) : Calls Try.prog 26 #[p] w fun e w' => e = .returned (.slice none 0 0) ∧ Below w.heap.size w w' := by
  rcases h with rfl | ⟨t, rfl, hb⟩
  · go_enter Try.func26, Try.ntmps26
    go_wp2
    go_returns
    exact ⟨rfl, Below.refl _ _⟩
  · have hl : t < w.heap.size := (Array.getElem?_eq_some_iff.1 hb).1
    have c0 : w.cell? ⟨t, 0, none⟩ = some (.map none) := (blk_cell hb 0).trans rfl
    have c1 : (w.alloc (.cells #[.slice none 0 0] 29)).cell? ⟨t, 0, none⟩ = some (.map none) := (World.cell?_alloc_lt w _ _ hl).trans c0
    clear hb
    go_enter Try.func26, Try.ntmps26
    go_wp2_with fail
    refine (rising45_nil _ _).mono ?_
    rintro e w1 ⟨rfl, hw⟩
    obtain ⟨hcell, hbb⟩ := behind_alloc hw
    clear hw
    have H := Aside0.mk hbb
    clear hbb
    go_wp2_with fail
    go_returns
    exact ⟨rfl, H.out⟩

end Go.Proofs.Ytkjliijcnllohaa.S
