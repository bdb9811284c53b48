/- stm: StmSerial: its small functions: name, the test on a written slot, ContainsFunc. -/
import Derived.Test.YtkjliijcnllohaaHRise2
namespace Go.Proofs.Ytkjliijcnllohaa.S
open Go.RowKit Go.Proofs.YtkjliijcnllohaaW.PrintWords Go.Proofs.YtkjliijcnllohaaW.PrintLast Go.Proofs.YtkjliijcnllohaaW.PrintMore
set_option linter.unusedVariables false
set_option linter.unusedSimpArgs false
theorem beq_str (a b : ByteArray) : (a.toList == b.toList) = decide (a = b) := by
  rw [Bool.eq_iff_iff]
  simp only [beq_iff_eq, decide_eq_true_eq]
  refine ⟨fun h => ?_, fun h => by rw [h]⟩
  have h2 : a.data.toList = b.data.toList := by first | (rw [← ByteArray.toList_eq, ← ByteArray.toList_eq]; exact h) | (simpa using h)
  cases a
  cases b
  simpa using h2
/-- The name that a call means. -/
def nmOf (nm : ByteArray) : ByteArray := if nm.size % 3 = 0 then ⟨#[97]⟩ else if nm.size % 3 = 1 then ⟨#[98]⟩ else ⟨#[99]⟩
theorem nmOf_fit (nm : ByteArray) : fitB (nmOf nm) = true := by
  unfold nmOf
  split
  · kernel_rfl
  · split <;> kernel_rfl
theorem nmOf_size (nm : ByteArray) : (nmOf nm).size ≤ 11 := by
  unfold nmOf
  split
  · decide
  · split <;> decide
set_option maxRecDepth 100000 in
set_option maxHeartbeats 1000000 in
theorem name_calls (op tx : Int) (nm : ByteArray) (v : Value) (w : World) (hsz : nm.size ≤ 9223372036854775807) : Calls Try.prog 25 #[.agg #[.int .i64 op, .int .i64 tx, .string nm, v]] w fun e w' => e = .returned (.string (nmOf nm)) ∧ Below w.heap.size w w' := by
  have hu50 := Try.underlying50
  have h0 : (0 : Int) ≤ (nm.size : Int) := by omega
  have hr : nm.size % 3 = 0 ∨ nm.size % 3 = 1 ∨ nm.size % 3 = 2 := by omega
  rcases hr with hr | hr | hr
  · have hR := Aside0.mk hr
    have hm : (nm.size : Int) % 3 = 0 := by omega
    clear hr
    go_enter Try.func25, Try.ntmps25
    go_wp2_with fail
    go_returns
    exact ⟨by unfold nmOf; rw [hR.out]; rfl, below_alloc (below_alloc (Below.refl _ _) _) _⟩
  · have hR := Aside0.mk hr
    have hm : (nm.size : Int) % 3 = 1 := by omega
    clear hr
    go_enter Try.func25, Try.ntmps25
    go_wp2_with fail
    go_returns
    exact ⟨by unfold nmOf; rw [hR.out]; rfl, below_alloc (below_alloc (Below.refl _ _) _) _⟩
  · have hR := Aside0.mk hr
    have hm : (nm.size : Int) % 3 = 2 := by omega
    clear hr
    go_enter Try.func25, Try.ntmps25
    go_wp2_with fail
    go_returns
    exact ⟨by unfold nmOf; rw [hR.out]; rfl, below_alloc (below_alloc (Below.refl _ _) _) _⟩
/-- A call that is to be done, in a variable of its own. -/
def DoAt (w : World) (kb : Nat) (op tx : Int) (nm : ByteArray) (v : Value) : Prop := (∃ A n c, v = .slice A n c) ∧ w.heap[kb]? = some (.cells #[.int .i64 op, .int .i64 tx, .string nm, v] 50 (0, 0))
theorem DoAt.below {w w' : World} {kb : Nat} {op tx : Int} {nm : ByteArray} {v : Value} (h : DoAt w kb op tx nm v) (hb : Below w.heap.size w w') : DoAt w' kb op tx nm v := ⟨h.1, (hb.block _ (blk_lt h.2)).trans h.2⟩
theorem DoAt.fr {T : List Nat} {w w' : World} {kb : Nat} {op tx : Int} {nm : ByteArray} {v : Value} (h : DoAt w kb op tx nm v) (hf : Fr T w w') (hT : kb ∉ T) : DoAt w' kb op tx nm v := ⟨h.1, hf.get h.2 hT⟩
section
variable {w : World} {kb : Nat} {op tx : Int} {nm : ByteArray} {v : Value}
theorem DoAt.c0 (h : DoAt w kb op tx nm v) : w.cell? ⟨kb, 0, none⟩ = some (.int .i64 op) := (blk_cell h.2 0).trans rfl
theorem DoAt.c1 (h : DoAt w kb op tx nm v) : w.cell? ⟨kb, 1, none⟩ = some (.int .i64 tx) := (blk_cell h.2 1).trans rfl
theorem DoAt.c2 (h : DoAt w kb op tx nm v) : w.cell? ⟨kb, 2, none⟩ = some (.string nm) := (blk_cell h.2 2).trans rfl
theorem DoAt.c3 (h : DoAt w kb op tx nm v) : w.cell? ⟨kb, 3, none⟩ = some v := (blk_cell h.2 3).trans rfl
end
set_option maxRecDepth 100000 in
set_option maxHeartbeats 1000000 in
theorem test_calls (xn : ByteArray) (ver : Int) (xv : Value) {w : World} {kb : Nat} {op tx : Int} {nm : ByteArray} {v : Value} (hk : DoAt w kb op tx nm v) (hsz : nm.size ≤ 9223372036854775807) :
    Calls Try.prog 24 #[.agg #[.string xn, .int .i64 ver, xv], .pointer (some ⟨kb, 0, none⟩)] w fun e w' => e = .returned (.bool (decide (xn = nmOf nm))) ∧ Below w.heap.size w w' := by
  obtain ⟨⟨A, n, c, rfl⟩, hb⟩ := hk
  have hu28 := Try.underlying28
  have hu50 := Try.underlying50
  have hbW : Below w.heap.size w (w.alloc (.cells #[.string xn, .int .i64 ver, xv] 28)).drew := ⟨rfl, rfl, rfl, by simp, fun k hk => ((Below.refl _ w).alloc (Nat.le_refl _) (.cells #[.string xn, .int .i64 ver, xv] 28)).block k hk⟩
  have hW : DoAt (w.alloc (.cells #[.string xn, .int .i64 ver, xv] 28)).drew kb op tx nm (.slice A n c) := DoAt.below ⟨⟨A, n, c, rfl⟩, hb⟩ hbW
  have n0 : (w.alloc (.cells #[.string xn, .int .i64 ver, xv] 28)).drew.cell? ⟨w.heap.size, 0, none⟩ = some (.string xn) := (blk_cell (show (w.alloc (.cells #[.string xn, .int .i64 ver, xv] 28)).drew.heap[w.heap.size]? = _ from heap_alloc_new w _) 0).trans rfl
  have HH := Aside0.mk (And.intro n0 (And.intro hW.c0 (And.intro hW.c1 (And.intro hW.c2 hW.c3))))
  have HC := Aside0.mk (name_calls op tx nm (.slice A n c) (w.alloc (.cells #[.string xn, .int .i64 ver, xv] 28)).drew hsz)
  have HB := Aside0.mk hbW
  have e0 : (Value.string xn).cells = #[.string xn] := rfl
  clear hbW hW n0 hsz hb
  go_enter Try.func24, Try.ntmps24
  go_wp2_with fail
  refine start_ (n := 6) (S := (fun w' => w'.cell? ⟨w.heap.size, 0, none⟩ = some (.string xn) ∧ w'.cell? ⟨kb, 0, none⟩ = some (.int .i64 op) ∧ w'.cell? ⟨kb, 1, none⟩ = some (.int .i64 tx) ∧ w'.cell? ⟨kb, 2, none⟩ = some (.string nm) ∧ w'.cell? ⟨kb, 3, none⟩ = some (.slice A n c))) (ds := []) #[false, false, false, false, false, false] (by kernel_rfl) rfl rfl HH.out (fun hHeld => ?_)
  refine pure_ (i := 0) (N := some 4) (v := ?_) (a' := ?_) #[true, false, false, false, false, false] rfl rfl (by kernel_rfl) (fun _ _ _ h => h) (Or.inl ⟨by rfl, ?_⟩) ?_ ?_
  rotate_left
  · intro w'
    go_simp
    with_reducible rfl
  rotate_left
  · simp only [Act.put, List.setIfInBounds_toArray, List.set_cons_zero, List.set_cons_succ, i64_w, i32_w]
    rfl
  refine take_ (i := 1) (N := some 5) (v := ?_) (a' := ?_) #[true, true, false, false, false, false] rfl rfl (by kernel_rfl) (fun _ _ _ h => h) (Or.inl ⟨by rfl, ?_⟩) hHeld ?_ ?_
  rotate_left
  · rintro w' ⟨s0, s1, s2, s3, s4⟩
    go_simp
    with_reducible rfl
  rotate_left
  · simp only [Act.put, List.setIfInBounds_toArray, List.set_cons_zero, List.set_cons_succ, i64_w, i32_w]
    rfl
  refine take_ (i := 2) (N := some 6) (v := ?_) (a' := ?_) #[true, true, true, false, false, false] rfl rfl (by kernel_rfl) (fun _ _ _ h => h) (Or.inl ⟨by rfl, ?_⟩) hHeld ?_ ?_
  rotate_left
  · rintro w' ⟨s0, s1, s2, s3, s4⟩
    go_simp
    with_reducible rfl
  rotate_left
  · simp only [Act.put, List.setIfInBounds_toArray, List.set_cons_zero, List.set_cons_succ, i64_w, i32_w]
    rfl
  refine one_ (i := 3) (N := some 7) #[true, true, true, true, false, false] rfl rfl (by kernel_rfl) (by decide) (fun KK hK => ?_)
  refine goes_ Try.func25 (by kernel_rfl) rfl #[.agg #[.int .i64 op, .int .i64 tx, .string nm, .slice A n c]] (by rfl) rfl rfl (by simp only [List.map_toArray, List.map_cons, List.map_nil]; rfl) ?_
  refine HC.out.mono ?_
  rintro e w9 ⟨rfl, hbl⟩
  have H9 := And.intro ((hbl.cell (World.block_lt_of_cell? _ _ HH.out.1)).trans HH.out.1) (And.intro ((hbl.cell (World.block_lt_of_cell? _ _ HH.out.2.1)).trans HH.out.2.1) (And.intro ((hbl.cell (World.block_lt_of_cell? _ _ HH.out.2.2.1)).trans HH.out.2.2.1) (And.intro ((hbl.cell (World.block_lt_of_cell? _ _ HH.out.2.2.2.1)).trans HH.out.2.2.2.1) ((hbl.cell (World.block_lt_of_cell? _ _ HH.out.2.2.2.2)).trans HH.out.2.2.2.2))))
  refine ⟨_, rfl, ?_⟩
  refine hK.out _ _ H9 (fun hHeld => ?_)
  clear hK KK
  refine norm_ (a' := ?_) ?_ ?_
  rotate_left
  · show Act.put _ (some 7) _ = _
    simp only [Act.put, List.setIfInBounds_toArray, List.set_cons_zero, List.set_cons_succ, i64_w, i32_w]
    rfl
  have HB9 := Aside0.mk (HB.out.trans (Below.mono hbl HB.out.size))
  clear hbl H9 HH HC
  refine pure_ (i := 4) (N := some 8) (v := ?_) (a' := ?_) #[true, true, true, true, true, false] rfl rfl (by kernel_rfl) (fun _ _ _ h => h) (Or.inl ⟨by rfl, ?_⟩) ?_ ?_
  rotate_left
  · intro w'
    go_simp
    with_reducible rfl
  rotate_left
  · simp only [Act.put, List.setIfInBounds_toArray, List.set_cons_zero, List.set_cons_succ, i64_w, i32_w]
    rfl
  refine pure_ (i := 5) (N := some 3) (v := ?_) (a' := ?_) #[true, true, true, true, true, true] rfl rfl (by kernel_rfl) (fun _ _ _ h => h) (Or.inl ⟨by rfl, ?_⟩) ?_ ?_
  rotate_left
  · intro w'
    go_simp
    with_reducible rfl
  rotate_left
  · simp only [Act.put, List.setIfInBounds_toArray, List.set_cons_zero, List.set_cons_succ, i64_w, i32_w]
    rfl
  refine done_ (by kernel_rfl) ?_
  go_wp2_with fail
  go_returns
  exact ⟨congrArg (fun b => Ending.returned (Value.bool b)) (beq_str xn (nmOf nm)), HB9.out⟩
/-- The first slot of a name; -1: there is none. -/
def eqAt (L : List SA) (nn : ByteArray) : Int := match L.findIdx? (fun x => decide (x.name = nn)) with
  | some i => i
  | none => -1
theorem eqAt_ge (L : List SA) (nn : ByteArray) : decide (0 ≤ eqAt L (nn)) = L.any fun x => decide (x.name = nn) := by
  unfold eqAt
  cases h : L.findIdx? (fun x => decide (x.name = nn)) with
  | some i =>
    have h1 := List.findIdx?_eq_some_iff_getElem.1 h
    obtain ⟨hi, h2, _⟩ := h1
    have : (L.any fun x => decide (x.name = nn)) = true := by
      rw [List.any_eq_true]
      exact ⟨L[i], List.getElem_mem hi, h2⟩
    rw [this]; simp
  | none =>
    rw [List.findIdx?_eq_none_iff] at h
    have : (L.any fun x => decide (x.name = nn)) = false := by
      rw [List.any_eq_false]
      intro x hx
      simpa using h x hx
    rw [this]; simp

set_option maxHeartbeats 1000000 in
set_option maxRecDepth 100000 in
theorem index24_calls {L : List SA} {A : Option Addr} {c : Nat} {w : World} {kb : Nat} {op tx : Int} {nm : ByteArray} {v : Value} (hk : DoAt w kb op tx nm v) (hsz : nm.size ≤ 9223372036854775807) (h : SlotsIn w A L) :
    Calls Try.prog 42 #[.slice A L.length c, .func (.func 24) #[] #[ptr kb]] w fun e w' => e = .returned (.int .i64 (eqAt L (nmOf nm))) ∧ Below w.heap.size w w' := by
  have hu28 := Try.underlying28
  have H := Aside0.mk h.2
  have hmx := h.1
  have HK := Aside0.mk hk
  have HZ := Aside0.mk hsz
  unfold ptr
  clear h hk hsz
  go_enter Try.func42, Try.ntmps42
  go_wp2_with fail
  go_loopw [8] (fun v8 wr => ∃ i : Nat, v8 = .int .i64 i ∧ Aside0 (i ≤ L.length) ∧ Aside0 (∀ (j : Nat) (h : j < L.length), j < i → (decide (L[j].name = nmOf nm)) = false) ∧ Aside0 (Below w.heap.size w wr)) (fun v8 wr => L.length - (intOf v8).toNat)
  case atStart => exact ⟨0, rfl, ⟨Nat.zero_le _⟩, ⟨fun j _ h => by omega⟩, ⟨Below.refl _ _⟩⟩
  case round =>
    obtain ⟨i, rfl, hi, hs, HB⟩ := hrel
    by_cases hlt : i < L.length
    · have hlt' : ((i : Int) < (L.length : Int)) := by omega
      have hltb : decide ((i : Int) < (L.length : Int)) = true := decide_eq_true hlt'
      obtain ⟨ad, hA, x0, x1, x2, -⟩ := H.out i hlt
      cases hA
      replace x0 := (HB.out.cell (World.block_lt_of_cell? w _ x0)).trans x0
      replace x1 := (HB.out.cell (World.block_lt_of_cell? w _ x1)).trans x1
      replace x2 := (HB.out.cell (World.block_lt_of_cell? w _ x2)).trans x2
      go_wp2_with fail
      clear x0 x1 x2
      refine (test_calls (L[i]'hlt).name _ _ (HK.out.below HB.out) HZ.out).mono ?_
      rintro e w' ⟨rfl, hb⟩
      have HB2 := Aside0.mk (below_step HB.out hb)
      clear hb
      cases hsm : decide ((L[i]'hlt).name = nmOf nm) with
      | false =>
        have hq := Aside0.mk (show ∀ (j : Nat) (h : j < L.length), j < i + 1 → (decide (L[j].name = nmOf nm)) = false from fun j hj hji => by
          rcases Nat.lt_or_ge j i with h | h
          · exact hs.out j hj h
          · obtain rfl : j = i := by omega
            exact hsm)
        clear hsm
        go_wp2_with fail
        go_roundw
        case rel => exact ⟨i + 1, by go_num, ⟨hlt⟩, hq, HB2⟩
        case measure => simp [intOf]; omega
      | true =>
        have hq : Aside0 (eqAt L (nmOf nm) = i) := ⟨by
          unfold eqAt
          have : L.findIdx? (fun x => decide (x.name = nmOf nm)) = some i := by
            rw [List.findIdx?_eq_some_iff_getElem]
            exact ⟨hlt, by rw [hsm], fun j hj => by have := hs.out j (by omega) hj; simpa using this⟩
          rw [this]⟩
        clear hsm
        go_wp2_with fail
        go_returns
        exact ⟨by rw [hq.out]; rfl, HB2.out⟩
    · have hltb : decide ((i : Int) < (L.length : Int)) = false := decide_eq_false (by omega)
      have hz : Aside0 (eqAt L (nmOf nm) = -1) := ⟨by
        unfold eqAt
        have : L.findIdx? (fun x => decide (x.name = nmOf nm)) = none := by
          rw [List.findIdx?_eq_none_iff]
          intro x hx
          obtain ⟨j, hj, rfl⟩ := List.getElem_of_mem hx
          exact hs.out j hj (by omega)
        rw [this]⟩
      go_wp2_with fail
      go_returns
      exact ⟨by rw [hz.out]; rfl, HB.out⟩

set_option maxHeartbeats 1000000 in
theorem contains24_calls {L : List SA} {A : Option Addr} {c : Nat} {w : World} {kb : Nat} {op tx : Int} {nm : ByteArray} {v : Value} (hk : DoAt w kb op tx nm v) (hsz : nm.size ≤ 9223372036854775807) (h : SlotsIn w A L) :
    Calls Try.prog 22 #[.slice A L.length c, .func (.func 24) #[] #[ptr kb]] w fun e w' => e = .returned (.bool (L.any fun x => decide (x.name = nmOf nm))) ∧ Below w.heap.size w w' := by
  have HC := Aside0.mk (index24_calls (c := c) hk hsz h)
  have hw := Aside0.mk (eqAt_ge L (nmOf nm))
  unfold ptr
  unfold ptr at HC
  clear h hk hsz
  go_enter Try.func22, Try.ntmps22
  go_wp2_with fail
  refine HC.out.mono ?_
  rintro e w' ⟨rfl, hb⟩
  have HB := Aside0.mk hb
  clear hb
  go_wp2_with fail
  go_returns
  exact ⟨by rw [← hw.out]; rfl, HB.out⟩
end Go.Proofs.Ytkjliijcnllohaa.S
