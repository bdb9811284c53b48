/- heap: a heap that no call made: nil, or one whose map is nil. -/
import Derived.Test.YtlghnldlkbgajaaDx1
import Derived.Handy
import Derived.WalkSpells
namespace Go.Proofs.Ytlghnldlkbgajaa.S
open Go.RowKit Go.Proofs.YtlghnldlkbgajaaW.PrintWords Go.Proofs.YtlghnldlkbgajaaW.PrintLast Go.Proofs.YtlghnldlkbgajaaW.PrintMore
set_option linter.unusedVariables false
set_option linter.unusedSimpArgs false

/-- A heap that no call made. -/
def NoH (w : World) (p : Value) : Prop := p = .pointer none ∨ ∃ t, p = .pointer (some ⟨t, 0, none⟩) ∧ w.heap[t]? = some (.cells #[.map none, .int .i64 0, .slice none 0 0, .int .i64 0, .int .i64 0, .int .i64 0, .int .i64 0, .int .i64 0, .int .i64 0, .bool false] 66 (0, 0))
theorem NoH.below {w w' : World} {p : Value} {B : Nat} (h : NoH w p) (hb : Below B w w') (hB : w.heap.size ≤ B) : NoH w' p := by
  rcases h with rfl | ⟨t, rfl, hc⟩
  · exact .inl rfl
  · exact .inr ⟨t, rfl, (hb.block t (Nat.lt_of_lt_of_le (Array.getElem?_eq_some_iff.1 hc).1 hB)).trans hc⟩

set_option maxRecDepth 100000 in
theorem made_no {w : World} {p : Value} (h : NoH w p) : Calls Try.prog 31 #[p] w fun e w' => e = .returned (.bool false) ∧ w' = w := by
  rcases h with rfl | ⟨t, rfl, hb⟩
  · go_enter Try.func31, Try.ntmps31
    go_wp2
    go_returns
    exact ⟨rfl, rfl⟩
  · have c0 : w.cell? ⟨t, 0, none⟩ = some (.map none) := (blk_cell hb 0).trans rfl
    have hmn : (binOp .neq 63 (.map none) (.map none)).run Try.prog w = .ok (.bool false) w := run_neq_map_nil w 63 28 75 none Try.underlying63
    clear hb
    go_enter Try.func31, Try.ntmps31
    go_wp2
    go_returns
    exact ⟨rfl, rfl⟩
set_option maxRecDepth 100000 in
theorem make_no {w : World} {p : Value} (h : NoH w p) (k : Int) (v : Value) : Calls Try.prog 10 #[p, .int .i64 k, v] w fun e w' => e = .returned (.tuple #[.int .i64 0, .int .i64 2]) ∧ w' = w := by
  have H := Aside0.mk h
  clear h
  go_enter Try.func10, Try.ntmps10
  go_wp2_with fail
  refine (made_no H.out).mono ?_
  rintro e w1 ⟨rfl, rfl⟩
  go_wp2_with fail
  go_returns
  exact ⟨rfl, rfl⟩
set_option maxRecDepth 100000 in
theorem text_no {w : World} {p : Value} (h : NoH w p) (k : Int) (s : ByteArray) : Calls Try.prog 27 #[p, .int .i64 k, .string s] w fun e w' => e = .returned (.tuple #[.int .i64 0, .int .i64 2]) ∧ w' = w := by
  have H := Aside0.mk h
  clear h
  go_enter Try.func27, Try.ntmps27
  go_wp2_with fail
  refine (made_no H.out).mono ?_
  rintro e w1 ⟨rfl, rfl⟩
  go_wp2_with fail
  go_returns
  exact ⟨rfl, rfl⟩
set_option maxRecDepth 100000 in
theorem field_no {w : World} {p : Value} (h : NoH w p) (x i : Int) : Calls Try.prog 14 #[p, .int .i64 x, .int .i64 i] w fun e w' => e = .returned (.tuple #[.int .i64 0, .int .i64 2]) ∧ w' = w := by
  have H := Aside0.mk h
  clear h
  go_enter Try.func14, Try.ntmps14
  go_wp2_with fail
  refine (made_no H.out).mono ?_
  rintro e w1 ⟨rfl, rfl⟩
  go_wp2_with fail
  go_returns
  exact ⟨rfl, rfl⟩
set_option maxRecDepth 100000 in
theorem push_no {w : World} {p : Value} (h : NoH w p) (x : Int) : Calls Try.prog 9 #[p, .int .i64 x] w fun e w' => e = .returned (.int .i64 2) ∧ w' = w := by
  have H := Aside0.mk h
  clear h
  go_enter Try.func9, Try.ntmps9
  go_wp2_with fail
  refine (made_no H.out).mono ?_
  rintro e w1 ⟨rfl, rfl⟩
  go_wp2_with fail
  go_returns
  exact ⟨rfl, rfl⟩
set_option maxRecDepth 100000 in
theorem pop_no {w : World} {p : Value} (h : NoH w p) (x : Int) : Calls Try.prog 29 #[p, .int .i64 x] w fun e w' => e = .returned (.int .i64 2) ∧ w' = w := by
  have H := Aside0.mk h
  clear h
  go_enter Try.func29, Try.ntmps29
  go_wp2_with fail
  refine (made_no H.out).mono ?_
  rintro e w1 ⟨rfl, rfl⟩
  go_wp2_with fail
  go_returns
  exact ⟨rfl, rfl⟩
set_option maxRecDepth 100000 in
theorem setroot_no {w : World} {p : Value} (h : NoH w p) (i x : Int) : Calls Try.prog 12 #[p, .int .i64 i, .int .i64 x] w fun e w' => e = .returned (.int .i64 2) ∧ w' = w := by
  have H := Aside0.mk h
  clear h
  go_enter Try.func12, Try.ntmps12
  go_wp2_with fail
  refine (made_no H.out).mono ?_
  rintro e w1 ⟨rfl, rfl⟩
  go_wp2_with fail
  go_returns
  exact ⟨rfl, rfl⟩
set_option maxRecDepth 100000 in
theorem collect_no {w : World} {p : Value} (h : NoH w p) (b : Bool) : Calls Try.prog 17 #[p, .bool b] w fun e w' => e = .returned (.int .i64 2) ∧ w' = w := by
  have H := Aside0.mk h
  clear h
  go_enter Try.func17, Try.ntmps17
  go_wp2_with fail
  refine (made_no H.out).mono ?_
  rintro e w1 ⟨rfl, rfl⟩
  go_wp2_with fail
  go_returns
  exact ⟨rfl, rfl⟩
set_option maxRecDepth 100000 in
theorem root_no {w : World} {p : Value} (h : NoH w p) (i : Int) : Calls Try.prog 11 #[p, .int .i64 i] w fun e w' => e = .returned (.int .i64 0) ∧ w' = w := by
  have H := Aside0.mk h
  clear h
  go_enter Try.func11, Try.ntmps11
  go_wp2_with fail
  refine (made_no H.out).mono ?_
  rintro e w1 ⟨rfl, rfl⟩
  go_wp2_with fail
  go_returns
  exact ⟨rfl, rfl⟩
set_option maxRecDepth 100000 in
theorem set_no {w : World} {p : Value} (h : NoH w p) (x i v : Int) : Calls Try.prog 28 #[p, .int .i64 x, .int .i64 i, .int .i64 v] w fun e w' => e = .returned (.int .i64 2) ∧ w' = w := by
  have H := Aside0.mk h
  clear h
  go_enter Try.func28, Try.ntmps28
  go_wp2_with fail
  refine (field_no H.out x i).mono ?_
  rintro e w1 ⟨rfl, rfl⟩
  go_wp2_with fail
  go_returns
  exact ⟨rfl, rfl⟩
set_option maxRecDepth 100000 in
theorem roots_no {w : World} {p : Value} (h : NoH w p) : Calls Try.prog 22 #[p] w fun e w' => e = .returned (.int .i64 0) ∧ w' = w := by
  rcases h with rfl | ⟨t, rfl, hb⟩
  · go_enter Try.func22, Try.ntmps22
    go_wp2
    go_returns
    exact ⟨rfl, rfl⟩
  · have c2 : w.cell? ⟨t, 2, none⟩ = some (.slice none 0 0) := (blk_cell hb 2).trans rfl
    clear hb
    go_enter Try.func22, Try.ntmps22
    go_wp2
    go_returns
    exact ⟨rfl, rfl⟩
/-- A new object of no kind. -/
def NoObj (w w' : World) (v : Value) : Prop := Below w.heap.size w w' ∧ ∃ t, v = .pointer (some ⟨t, 0, none⟩) ∧ w'.heap[t]? = some (.cells #[.int .i64 0, .slice none 0 0, .string ⟨#[]⟩, .bool false, .bool false] 78 (0, 0))
set_option maxRecDepth 100000 in
theorem find_no {w : World} {p : Value} (h : NoH w p) (x : Int) : Calls Try.prog 36 #[p, .int .i64 x] w fun e w' => ∃ v, e = .returned v ∧ NoObj w w' v := by
  have H := Aside0.mk h
  clear h
  go_enter Try.func36, Try.ntmps36
  go_wp2_with fail
  refine (made_no H.out).mono ?_
  rintro e w1 ⟨rfl, rfl⟩
  go_wp2_with fail
  go_returns
  exact ⟨_, rfl, (Below.refl _ w1).alloc (Nat.le_refl _) _, _, rfl, Array.getElem?_push_size⟩
set_option maxRecDepth 100000 in
theorem kind_no {w : World} {p : Value} (h : NoH w p) (x : Int) : Calls Try.prog 13 #[p, .int .i64 x] w fun e w' => e = .returned (.int .i64 0) ∧ Below w.heap.size w w' := by
  have H := Aside0.mk h
  clear h
  go_enter Try.func13, Try.ntmps13
  go_wp2_with fail
  refine (find_no H.out x).mono ?_
  rintro e w1 ⟨v, rfl, hb, t, rfl, ht⟩
  have HB := Aside0.mk hb
  clear hb
  have c0 : w1.cell? ⟨t, 0, none⟩ = some (.int .i64 0) := (blk_cell ht 0).trans rfl
  clear ht
  go_wp2_with fail
  go_returns
  exact ⟨rfl, HB.out⟩
set_option maxRecDepth 100000 in
theorem len_no {w : World} {p : Value} (h : NoH w p) (x : Int) : Calls Try.prog 30 #[p, .int .i64 x] w fun e w' => e = .returned (.int .i64 0) ∧ Below w.heap.size w w' := by
  have H := Aside0.mk h
  clear h
  go_enter Try.func30, Try.ntmps30
  go_wp2_with fail
  refine (find_no H.out x).mono ?_
  rintro e w1 ⟨v, rfl, hb, t, rfl, ht⟩
  have HB := Aside0.mk hb
  clear hb
  have c1 : w1.cell? ⟨t, 1, none⟩ = some (.slice none 0 0) := (blk_cell ht 1).trans rfl
  have c2 : w1.cell? ⟨t, 2, none⟩ = some (.string ⟨#[]⟩) := (blk_cell ht 2).trans rfl
  clear ht
  go_wp2_with fail
  go_region_held3 (fun w' => w'.cell? ⟨t, 1, none⟩ = some (.slice none 0 0) ∧ w'.cell? ⟨t, 2, none⟩ = some (.string ⟨#[]⟩)) (first | exact ⟨c1, c2⟩) (fail)
  go_wp2_with fail
  go_returns
  exact ⟨rfl, below_drew1 HB.out⟩
set_option maxRecDepth 100000 in
theorem string_no {w : World} {p : Value} (h : NoH w p) (x : Int) : Calls Try.prog 23 #[p, .int .i64 x] w fun e w' => e = .returned (.string ⟨#[]⟩) ∧ Below w.heap.size w w' := by
  have H := Aside0.mk h
  clear h
  go_enter Try.func23, Try.ntmps23
  go_wp2_with fail
  refine (find_no H.out x).mono ?_
  rintro e w1 ⟨v, rfl, hb, t, rfl, ht⟩
  have HB := Aside0.mk hb
  clear hb
  have c2 : w1.cell? ⟨t, 2, none⟩ = some (.string ⟨#[]⟩) := (blk_cell ht 2).trans rfl
  clear ht
  go_wp2_with fail
  go_returns
  exact ⟨rfl, HB.out⟩
end Go.Proofs.Ytlghnldlkbgajaa.S
