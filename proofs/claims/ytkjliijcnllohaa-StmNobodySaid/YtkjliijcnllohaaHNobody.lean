/- stm: spaces and transactions that no call made. -/
import Derived.Test.YtkjliijcnllohaaHAlone
namespace Go.Proofs.Ytkjliijcnllohaa.S
open Go.RowKit Go.Proofs.YtkjliijcnllohaaW.PrintWords Go.Proofs.YtkjliijcnllohaaW.PrintLast Go.Proofs.YtkjliijcnllohaaW.PrintMore
set_option linter.unusedVariables false
set_option linter.unusedSimpArgs false

/-- A transaction that no call made. -/
def NoTx (w : World) (p : Value) : Prop := p = .pointer none ∨ ∃ t, p = .pointer (some ⟨t, 0, none⟩) ∧ w.heap[t]? = some (.cells #[.pointer none, .int .i64 0, .int .i64 0, .map none, .map none] 67 (0, 0))
set_option maxRecDepth 100000 in
theorem in_no {w : World} {p : Value} (h : NoTx w p) (ph : Int) : Calls Try.prog 36 #[p, .int .i64 ph] w fun e w' => e = .returned (.int .i64 2) ∧ w' = w := by
  rcases h with rfl | ⟨t, rfl, hb⟩
  · go_enter Try.func36, Try.ntmps36
    go_wp2
    go_returns
    exact ⟨rfl, rfl⟩
  · have c0 : w.cell? ⟨t, 0, none⟩ = some (.pointer none) := (blk_cell hb 0).trans rfl
    clear hb
    go_enter Try.func36, Try.ntmps36
    go_wp2
    go_returns
    exact ⟨rfl, rfl⟩
set_option maxRecDepth 100000 in
theorem get_no {w : World} {p : Value} (h : NoTx w p) (name : ByteArray) : Calls Try.prog 12 #[p, .string name] w fun e w' => e = .returned (.tuple #[.slice none 0 0, .int .i64 2]) ∧ w' = w := by
  have H := Aside0.mk h
  clear h
  go_enter Try.func12, Try.ntmps12
  go_wp2_with fail
  refine (in_no H.out 0).mono ?_
  rintro e w1 ⟨rfl, rfl⟩
  go_wp2_with fail
  go_returns
  exact ⟨rfl, rfl⟩
set_option maxRecDepth 100000 in
theorem put_no {w : World} {p : Value} (h : NoTx w p) (name : ByteArray) (v : Value) : Calls Try.prog 10 #[p, .string name, v] w fun e w' => e = .returned (.int .i64 2) ∧ w' = w := by
  have H := Aside0.mk h
  clear h
  go_enter Try.func10, Try.ntmps10
  go_wp2_with fail
  refine (in_no H.out 0).mono ?_
  rintro e w1 ⟨rfl, rfl⟩
  go_wp2_with fail
  go_returns
  exact ⟨rfl, rfl⟩
set_option maxRecDepth 100000 in
theorem lock_no {w : World} {p : Value} (h : NoTx w p) : Calls Try.prog 11 #[p] w fun e w' => e = .returned (.int .i64 2) ∧ w' = w := by
  have H := Aside0.mk h
  clear h
  go_enter Try.func11, Try.ntmps11
  go_wp2_with fail
  refine (in_no H.out 0).mono ?_
  rintro e w1 ⟨rfl, rfl⟩
  go_wp2_with fail
  go_returns
  exact ⟨rfl, rfl⟩
set_option maxRecDepth 100000 in
theorem check_no {w : World} {p : Value} (h : NoTx w p) : Calls Try.prog 15 #[p] w fun e w' => e = .returned (.int .i64 2) ∧ w' = w := by
  have H := Aside0.mk h
  clear h
  go_enter Try.func15, Try.ntmps15
  go_wp2_with fail
  refine (in_no H.out 1).mono ?_
  rintro e w1 ⟨rfl, rfl⟩
  go_wp2_with fail
  refine (in_no H.out 2).mono ?_
  rintro e w1 ⟨rfl, rfl⟩
  go_wp2_with fail
  go_returns
  exact ⟨rfl, rfl⟩
set_option maxRecDepth 100000 in
theorem publish_no {w : World} {p : Value} (h : NoTx w p) : Calls Try.prog 16 #[p] w fun e w' => e = .returned (.int .i64 2) ∧ w' = w := by
  have H := Aside0.mk h
  clear h
  go_enter Try.func16, Try.ntmps16
  go_wp2_with fail
  refine (in_no H.out 2).mono ?_
  rintro e w1 ⟨rfl, rfl⟩
  go_wp2_with fail
  go_returns
  exact ⟨rfl, rfl⟩
set_option maxRecDepth 100000 in
theorem drop_no {w : World} {p : Value} (h : NoTx w p) : Calls Try.prog 27 #[p] w fun e w' => e = .returned (.int .i64 2) ∧ w' = w := by
  have H := Aside0.mk h
  clear h
  go_enter Try.func27, Try.ntmps27
  go_wp2_with fail
  refine (in_no H.out 0).mono ?_
  rintro e w1 ⟨rfl, rfl⟩
  go_wp2_with fail
  go_returns
  exact ⟨rfl, rfl⟩
set_option maxRecDepth 100000 in
theorem abort_none {w : World} {p : Value} (h : NoTx w p) : Calls Try.prog 14 #[p] w fun e w' => e = .returned (.int .i64 2) ∧ w' = w := by
  rcases h with rfl | ⟨t, rfl, hb⟩
  · go_enter Try.func14, Try.ntmps14
    go_wp2
    go_returns
    exact ⟨rfl, rfl⟩
  · have c0 : w.cell? ⟨t, 0, none⟩ = some (.pointer none) := (blk_cell hb 0).trans rfl
    clear hb
    go_enter Try.func14, Try.ntmps14
    go_wp2
    go_returns
    exact ⟨rfl, rfl⟩
set_option maxRecDepth 100000 in
theorem phase_none {w : World} {p : Value} (h : NoTx w p) : Calls Try.prog 13 #[p] w fun e w' => e = .returned (.int .i64 4) ∧ w' = w := by
  rcases h with rfl | ⟨t, rfl, hb⟩
  · go_enter Try.func13, Try.ntmps13
    go_wp2
    go_returns
    exact ⟨rfl, rfl⟩
  · have c0 : w.cell? ⟨t, 0, none⟩ = some (.pointer none) := (blk_cell hb 0).trans rfl
    clear hb
    go_enter Try.func13, Try.ntmps13
    go_wp2
    go_returns
    exact ⟨rfl, rfl⟩
/-- A space that no call made. -/
def NoSp (w : World) (p : Value) : Prop := p = .pointer none ∨ ∃ t, p = .pointer (some ⟨t, 0, none⟩) ∧ w.heap[t]? = some (.cells #[.map none, .int .i64 0] 63 (0, 0))
set_option maxRecDepth 100000 in
theorem begin_none {w : World} {p : Value} (h : NoSp w p) : Calls Try.prog 9 #[p] w fun e w' => e = .returned (.tuple #[.pointer none, .int .i64 2]) ∧ w' = w := by
  rcases h with rfl | ⟨t, rfl, hb⟩
  · go_enter Try.func9, Try.ntmps9
    go_wp2
    go_returns
    exact ⟨rfl, rfl⟩
  · have c0 : w.cell? ⟨t, 0, none⟩ = some (.map none) := (blk_cell hb 0).trans rfl
    have hmn : (binOp .eql 61 (.map none) (.map none)).run Try.prog w = .ok (.bool true) w := run_eql_map_nil w 61 9 78 none Try.underlying61
    clear hb
    go_enter Try.func9, Try.ntmps9
    go_wp2
    go_returns
    exact ⟨rfl, rfl⟩
set_option maxRecDepth 100000 in
theorem clock_none {w : World} {p : Value} (h : NoSp w p) : Calls Try.prog 20 #[p] w fun e w' => e = .returned (.int .i64 0) ∧ w' = w := by
  rcases h with rfl | ⟨t, rfl, hb⟩
  · go_enter Try.func20, Try.ntmps20
    go_wp2
    go_returns
    exact ⟨rfl, rfl⟩
  · have c1 : w.cell? ⟨t, 1, none⟩ = some (.int .i64 0) := (blk_cell hb 1).trans rfl
    clear hb
    go_enter Try.func20, Try.ntmps20
    go_wp2
    go_returns
    exact ⟨rfl, rfl⟩
end Go.Proofs.Ytkjliijcnllohaa.S
