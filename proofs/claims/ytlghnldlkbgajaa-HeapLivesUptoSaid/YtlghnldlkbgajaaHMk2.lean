
/- heap: the rest of its calls, whatever the heap and what comes in. -/
import Derived.Test.YtlghnldlkbgajaaHMk
namespace Go.Proofs.Ytlghnldlkbgajaa.S
open Go.RowKit Go.Proofs.YtlghnldlkbgajaaW.PrintWords Go.Proofs.YtlghnldlkbgajaaW.PrintLast Go.Proofs.YtlghnldlkbgajaaW.PrintMore
set_option linter.unusedVariables false
set_option linter.unusedSimpArgs false

def fixedF (k : Int) : Option Int := if k = 1 then some 2 else if k = 2 then some (-1) else if k = 6 then some 3 else if k = 7 then some 2 else if k = 8 then some 4 else none
set_option maxRecDepth 100000 in
theorem shape2 (w : World) : (Instr.index 96 shapes (.int .i64 2)).run Try.prog w = .ok (.agg #[.int .i64 6, .int .i64 3]) w := by
  unfold shapes
  simp [Instr.index, run_underlying Try.underlying96, go_sem]
  try rfl
set_option maxRecDepth 100000 in
theorem shape3 (w : World) : (Instr.index 96 shapes (.int .i64 3)).run Try.prog w = .ok (.agg #[.int .i64 7, .int .i64 2]) w := by
  unfold shapes
  simp [Instr.index, run_underlying Try.underlying96, go_sem]
  try rfl
set_option maxRecDepth 100000 in
theorem shape4 (w : World) : (Instr.index 96 shapes (.int .i64 4)).run Try.prog w = .ok (.agg #[.int .i64 8, .int .i64 4]) w := by
  unfold shapes
  simp [Instr.index, run_underlying Try.underlying96, go_sem]
  try rfl
set_option maxRecDepth 100000 in
theorem fixed6 (w : World) : Calls Try.prog 33 #[.int .i64 6] w fun e w' => e = .returned (.tuple #[.int .i64 3, .bool true]) ∧ Below w.heap.size w w' := by
  have hu95 := Try.underlying95
  have hs0 := shape0
  have hs1 := shape1
  have hs2 := shape2
  have hs3 := shape3
  have hs4 := shape4
  unfold shapes at hs0 hs1 hs2 hs3 hs4
  go_enter Try.func33, Try.ntmps33
  go_wp2_with fail
  go_loopw [12] (fun v wr => (v = .int .i64 0 ∨ v = .int .i64 1 ∨ v = .int .i64 2) ∧ Aside0 (Below w.heap.size w wr)) (fun v wr => 8 - (intOf v).toNat)
  case atStart => exact ⟨.inl rfl, ⟨Below.refl _ _⟩⟩
  case round =>
    obtain ⟨hv, HB⟩ := hrel
    rcases hv with rfl | rfl | rfl
    · have HB2 := Aside0.mk (HB.out.alloc HB.out.size (.cells #[.int .i64 1, .int .i64 (2)] 95))
      go_wp2_with fail
      go_roundw
      case rel => exact ⟨.inr (.inl (by go_num)), HB2⟩
      case measure => simp [intOf]
    · have HB2 := Aside0.mk (HB.out.alloc HB.out.size (.cells #[.int .i64 2, .int .i64 (-1)] 95))
      go_wp2_with fail
      go_roundw
      case rel => exact ⟨.inr (.inr (by go_num)), HB2⟩
      case measure => simp [intOf]
    · go_wp2_with fail
      go_returns
      exact ⟨rfl, HB.out.alloc HB.out.size _⟩
set_option maxRecDepth 100000 in
theorem fixed7 (w : World) : Calls Try.prog 33 #[.int .i64 7] w fun e w' => e = .returned (.tuple #[.int .i64 2, .bool true]) ∧ Below w.heap.size w w' := by
  have hu95 := Try.underlying95
  have hs0 := shape0
  have hs1 := shape1
  have hs2 := shape2
  have hs3 := shape3
  have hs4 := shape4
  unfold shapes at hs0 hs1 hs2 hs3 hs4
  go_enter Try.func33, Try.ntmps33
  go_wp2_with fail
  go_loopw [12] (fun v wr => (v = .int .i64 0 ∨ v = .int .i64 1 ∨ v = .int .i64 2 ∨ v = .int .i64 3) ∧ Aside0 (Below w.heap.size w wr)) (fun v wr => 8 - (intOf v).toNat)
  case atStart => exact ⟨.inl rfl, ⟨Below.refl _ _⟩⟩
  case round =>
    obtain ⟨hv, HB⟩ := hrel
    rcases hv with rfl | rfl | rfl | rfl
    · have HB2 := Aside0.mk (HB.out.alloc HB.out.size (.cells #[.int .i64 1, .int .i64 (2)] 95))
      go_wp2_with fail
      go_roundw
      case rel => exact ⟨.inr (.inl (by go_num)), HB2⟩
      case measure => simp [intOf]
    · have HB2 := Aside0.mk (HB.out.alloc HB.out.size (.cells #[.int .i64 2, .int .i64 (-1)] 95))
      go_wp2_with fail
      go_roundw
      case rel => exact ⟨.inr (.inr (.inl (by go_num))), HB2⟩
      case measure => simp [intOf]
    · have HB2 := Aside0.mk (HB.out.alloc HB.out.size (.cells #[.int .i64 6, .int .i64 (3)] 95))
      go_wp2_with fail
      go_roundw
      case rel => exact ⟨.inr (.inr (.inr (by go_num))), HB2⟩
      case measure => simp [intOf]
    · go_wp2_with fail
      go_returns
      exact ⟨rfl, HB.out.alloc HB.out.size _⟩
set_option maxRecDepth 100000 in
theorem fixed8 (w : World) : Calls Try.prog 33 #[.int .i64 8] w fun e w' => e = .returned (.tuple #[.int .i64 4, .bool true]) ∧ Below w.heap.size w w' := by
  have hu95 := Try.underlying95
  have hs0 := shape0
  have hs1 := shape1
  have hs2 := shape2
  have hs3 := shape3
  have hs4 := shape4
  unfold shapes at hs0 hs1 hs2 hs3 hs4
  go_enter Try.func33, Try.ntmps33
  go_wp2_with fail
  go_loopw [12] (fun v wr => (v = .int .i64 0 ∨ v = .int .i64 1 ∨ v = .int .i64 2 ∨ v = .int .i64 3 ∨ v = .int .i64 4) ∧ Aside0 (Below w.heap.size w wr)) (fun v wr => 8 - (intOf v).toNat)
  case atStart => exact ⟨.inl rfl, ⟨Below.refl _ _⟩⟩
  case round =>
    obtain ⟨hv, HB⟩ := hrel
    rcases hv with rfl | rfl | rfl | rfl | rfl
    · have HB2 := Aside0.mk (HB.out.alloc HB.out.size (.cells #[.int .i64 1, .int .i64 (2)] 95))
      go_wp2_with fail
      go_roundw
      case rel => exact ⟨.inr (.inl (by go_num)), HB2⟩
      case measure => simp [intOf]
    · have HB2 := Aside0.mk (HB.out.alloc HB.out.size (.cells #[.int .i64 2, .int .i64 (-1)] 95))
      go_wp2_with fail
      go_roundw
      case rel => exact ⟨.inr (.inr (.inl (by go_num))), HB2⟩
      case measure => simp [intOf]
    · have HB2 := Aside0.mk (HB.out.alloc HB.out.size (.cells #[.int .i64 6, .int .i64 (3)] 95))
      go_wp2_with fail
      go_roundw
      case rel => exact ⟨.inr (.inr (.inr (.inl (by go_num)))), HB2⟩
      case measure => simp [intOf]
    · have HB2 := Aside0.mk (HB.out.alloc HB.out.size (.cells #[.int .i64 7, .int .i64 (2)] 95))
      go_wp2_with fail
      go_roundw
      case rel => exact ⟨.inr (.inr (.inr (.inr (by go_num)))), HB2⟩
      case measure => simp [intOf]
    · go_wp2_with fail
      go_returns
      exact ⟨rfl, HB.out.alloc HB.out.size _⟩
set_option maxRecDepth 100000 in
theorem fixed_no (k : Int) (h1 : k ≠ 1) (h2 : k ≠ 2) (h6 : k ≠ 6) (h7 : k ≠ 7) (h8 : k ≠ 8) (w : World) : Calls Try.prog 33 #[.int .i64 k] w fun e w' => e = .returned (.tuple #[.int .i64 0, .bool false]) ∧ Below w.heap.size w w' := by
  have hu95 := Try.underlying95
  have hs0 := shape0
  have hs1 := shape1
  have hs2 := shape2
  have hs3 := shape3
  have hs4 := shape4
  unfold shapes at hs0 hs1 hs2 hs3 hs4
  have a1 : ((1 : Int) == k) = false := by simpa using Ne.symm h1
  have b1 : decide ((1 : Int) = k) = false := decide_eq_false (Ne.symm h1)
  have a2 : ((2 : Int) == k) = false := by simpa using Ne.symm h2
  have b2 : decide ((2 : Int) = k) = false := decide_eq_false (Ne.symm h2)
  have a6 : ((6 : Int) == k) = false := by simpa using Ne.symm h6
  have b6 : decide ((6 : Int) = k) = false := decide_eq_false (Ne.symm h6)
  have a7 : ((7 : Int) == k) = false := by simpa using Ne.symm h7
  have b7 : decide ((7 : Int) = k) = false := decide_eq_false (Ne.symm h7)
  have a8 : ((8 : Int) == k) = false := by simpa using Ne.symm h8
  have b8 : decide ((8 : Int) = k) = false := decide_eq_false (Ne.symm h8)
  go_enter Try.func33, Try.ntmps33
  go_wp2_with fail
  go_loopw [12] (fun v wr => (v = .int .i64 0 ∨ v = .int .i64 1 ∨ v = .int .i64 2 ∨ v = .int .i64 3 ∨ v = .int .i64 4 ∨ v = .int .i64 5) ∧ Aside0 (Below w.heap.size w wr)) (fun v wr => 8 - (intOf v).toNat)
  case atStart => exact ⟨.inl rfl, ⟨Below.refl _ _⟩⟩
  case round =>
    obtain ⟨hv, HB⟩ := hrel
    rcases hv with rfl | rfl | rfl | rfl | rfl | rfl
    · have HB2 := Aside0.mk (HB.out.alloc HB.out.size (.cells #[.int .i64 1, .int .i64 (2)] 95))
      go_wp2_with fail
      go_roundw
      case rel => exact ⟨.inr (.inl (by go_num)), HB2⟩
      case measure => simp [intOf]
    · have HB2 := Aside0.mk (HB.out.alloc HB.out.size (.cells #[.int .i64 2, .int .i64 (-1)] 95))
      go_wp2_with fail
      go_roundw
      case rel => exact ⟨.inr (.inr (.inl (by go_num))), HB2⟩
      case measure => simp [intOf]
    · have HB2 := Aside0.mk (HB.out.alloc HB.out.size (.cells #[.int .i64 6, .int .i64 (3)] 95))
      go_wp2_with fail
      go_roundw
      case rel => exact ⟨.inr (.inr (.inr (.inl (by go_num)))), HB2⟩
      case measure => simp [intOf]
    · have HB2 := Aside0.mk (HB.out.alloc HB.out.size (.cells #[.int .i64 7, .int .i64 (2)] 95))
      go_wp2_with fail
      go_roundw
      case rel => exact ⟨.inr (.inr (.inr (.inr (.inl (by go_num))))), HB2⟩
      case measure => simp [intOf]
    · have HB2 := Aside0.mk (HB.out.alloc HB.out.size (.cells #[.int .i64 8, .int .i64 (4)] 95))
      go_wp2_with fail
      go_roundw
      case rel => exact ⟨.inr (.inr (.inr (.inr (.inr (by go_num))))), HB2⟩
      case measure => simp [intOf]
    · go_wp2_with fail
      go_returns
      exact ⟨rfl, HB.out⟩
theorem fixed_some {k n : Int} (h : fixedF k = some n) (w : World) : Calls Try.prog 33 #[.int .i64 k] w fun e w' => e = .returned (.tuple #[.int .i64 n, .bool true]) ∧ Below w.heap.size w w' := by
  unfold fixedF at h
  split at h
  · next e => subst e; obtain rfl := Option.some.inj h; exact fixed1 w
  · split at h
    · next e => subst e; obtain rfl := Option.some.inj h; exact fixed2 w
    · split at h
      · next e => subst e; obtain rfl := Option.some.inj h; exact fixed6 w
      · split at h
        · next e => subst e; obtain rfl := Option.some.inj h; exact fixed7 w
        · split at h
          · next e => subst e; obtain rfl := Option.some.inj h; exact fixed8 w
          · cases h
theorem fixed_none {k : Int} (h : fixedF k = none) (w : World) : Calls Try.prog 33 #[.int .i64 k] w fun e w' => e = .returned (.tuple #[.int .i64 0, .bool false]) ∧ Below w.heap.size w w' := by
  refine fixed_no k ?_ ?_ ?_ ?_ ?_ w <;> (rintro rfl; revert h; decide)
set_option maxRecDepth 100000 in
theorem textual_calls (k : Int) (w : World) : Calls Try.prog 55 #[.int .i64 k] w fun e w' => e = .returned (.bool (decide (3 ≤ k) && decide (k ≤ 5))) ∧ w' = w := by
  by_cases h1 : 3 ≤ k
  · have a1 : decide (3 ≤ k) = true := decide_eq_true h1
    go_enter Try.func55, Try.ntmps55
    go_wp2_with fail
    go_returns
    exact ⟨by simp [h1], rfl⟩
  · have a1 : decide (3 ≤ k) = false := decide_eq_false h1
    go_enter Try.func55, Try.ntmps55
    go_wp2_with fail
    go_returns
    exact ⟨by simp [h1], rfl⟩
/-- A row of words that is handed over: none, if there are none. -/
def RowIn (w : World) (A : Option Addr) (l : List Int) : Prop := l ≠ [] → ∃ q, A = some ⟨q, 0, none⟩ ∧ Row w q l
theorem RowIn.new {w w' : World} {A : Option Addr} {l : List Int} (h : RowIn w A l) (hb : Below w.heap.size w w') : RowIn w' A l := fun hne => by
  obtain ⟨q, h1, h2⟩ := h hne
  exact ⟨q, h1, h2.fr (Fr.ofBelow hb []) (by simp)⟩
set_option maxRecDepth 100000 in
set_option maxHeartbeats 1000000 in
theorem clone_any {w : World} {A : Option Addr} {c : Nat} {xs : List Int} (hlen : xs.length ≤ 1000) (hc : RowIn w A xs) :
    Calls Try.prog 35 #[.slice A xs.length c] w fun e w' => ∃ A' fb fc, e = .returned (.slice A' xs.length fc) ∧ (xs ≠ [] → A' = some ⟨fb, 0, none⟩ ∧ Row w' fb xs ∧ w.heap.size ≤ fb) ∧ Below w.heap.size w w' := by
  by_cases hne : xs = []
  · subst hne
    have q33 : ∀ (w : World) (a : Option Addr) (n c n' c' : Nat), (binOp .eql 33 (.slice a n c) (.slice none n' c')).run Try.prog w = .ok (.bool a.isNone) w := fun w a n c n' c' => Lib.run_eql_slice_nil w _ _ a n c n' c' Try.underlying33
    cases A with
    | none =>
      clear hc hlen
      show Calls Try.prog 35 #[.slice none 0 c] w _
      go_enter Try.func35, Try.ntmps35
      go_wp2_with fail
      go_returns
      exact ⟨none, 0, 0, rfl, fun h => absurd rfl h, Below.refl _ _⟩
    | some a =>
      obtain ⟨i0, hi, hz0, hz1, hz2⟩ := info_parts word_info
      have hrun : ∀ ty, (Builtin.append_ #[33, 33] ty #[.slice (some ⟨w.heap.size, 0, none⟩) 0 0, .slice (some a) 0 c]).run Try.prog (w.alloc (.cells #[] 28)) = .ok (.slice (some ⟨w.heap.size, 0, none⟩) 0 0) (w.alloc (.cells #[] 28)) := fun ty =>
        append_zero w.heap.size 33 ty 28 i0 1 Try.underlying33 hi _ 0 [] (World.ownsRow_made w #[] 0 (Nat.le_refl _) (Nat.zero_le _) rfl) (some a) c
      clear hc hlen hi hz0 hz1 hz2
      show Calls Try.prog 35 #[.slice (some a) 0 c] w _
      go_enter Try.func35, Try.ntmps35
      go_wp2_with (at_builtin; refine wpList_plain rfl fun K hK => wp_append_words _ _ 33 rfl _ _ _ _ rfl rfl hrun (hK _ _ ?_))
      go_returns
      exact ⟨some ⟨w.heap.size, 0, none⟩, 0, 0, rfl, fun h => absurd rfl h, (Below.refl _ _).alloc (Nat.le_refl _) _⟩
  · obtain ⟨q, rfl, hrow⟩ := hc hne
    refine (clone_ok hlen (List.length_pos_iff.2 hne) (fun j hj => by
        rw [show (⟨q, 0, none⟩ : Addr).add j = ⟨q, j, none⟩ from by unfold Addr.add; split <;> simp_all]
        exact hrow.cell hj)).mono ?_
    rintro e w' ⟨fb, fc, rfl, h1, h2, h3⟩
    exact ⟨_, fb, fc, rfl, fun _ => ⟨rfl, h1, h2⟩, h3⟩
end Go.Proofs.Ytlghnldlkbgajaa.S
