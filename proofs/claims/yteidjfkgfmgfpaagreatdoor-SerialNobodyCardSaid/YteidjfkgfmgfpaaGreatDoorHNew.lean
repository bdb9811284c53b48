/- serial: all that a word leads to, in no heap; a fresh heap; the law SerialNobody. -/
import Derived.Test.YteidjfkgfmgfpaaGreatDoorHNob
namespace Go.Proofs.YteidjfkgfmgfpaaGreatDoor.S
open Go.RowKit Go.Proofs.YteidjfkgfmgfpaaGreatDoorW.PrintWords Go.Proofs.YteidjfkgfmgfpaaGreatDoorW.PrintLast Go.Proofs.YteidjfkgfmgfpaaGreatDoorW.PrintMore
set_option linter.unusedVariables false
set_option linter.unusedSimpArgs false

theorem MapIs.new (w : World) : MapIs (w.alloc (.map #[] 0)) w.heap.size [] := ⟨#[], 0, heap_alloc_new w _, MapKept.stamped_empty 0, rfl⟩
theorem MapIs.below {w w' : World} {b : Nat} {m : List (Int × Value)} (h : MapIs w b m) (hb : Below w.heap.size w w') : MapIs w' b m := by
  obtain ⟨es, c, h1, h2, h3⟩ := h
  exact ⟨es, c, blk_below h1 hb, h2, h3⟩
theorem GrAt.below {w w' : World} {g mb : Nat} {p : Value} (h : GrAt w g mb p) (hb : Below w.heap.size w w') : GrAt w' g mb p := ⟨blk_below h.gr hb, h.mp.below hb⟩
set_option maxRecDepth 100000 in
theorem of_no {w : World} {p : Value} (h : NoH w p) (x : Int) : Calls Tryz.prog 11 #[p, .int .i64 x] w fun e w' => ∃ g mb, e = .returned (.pointer (some ⟨g, 0, none⟩)) ∧ GrAt w' g mb p ∧ Below w.heap.size w w' := by
  obtain ⟨q, rfl⟩ : ∃ q, p = .pointer q := by
    rcases h with rfl | ⟨t, rfl, _⟩ <;> exact ⟨_, rfl⟩
  have hmm := @run_makeMap Tryz.prog
  have hb0 : Below w.heap.size w ((w.alloc (.map #[] 0)).alloc (.cells #[.pointer q, .slice none 0 0, .map (some w.heap.size)] 46)) := ((Below.refl _ _).alloc (Nat.le_refl _) _).alloc (by simp) _
  have hg0 : GrAt ((w.alloc (.map #[] 0)).alloc (.cells #[.pointer q, .slice none 0 0, .map (some w.heap.size)] 46)) (w.heap.size + 1) w.heap.size (.pointer q) := by
    refine ⟨?_, (MapIs.new w).below ((Below.refl _ _).alloc (Nat.le_refl _) _)⟩
    rw [show w.heap.size + 1 = (w.alloc (.map #[] 0)).heap.size from by simp]
    exact heap_alloc_new _ _
  have hn0 := h.below hb0 (Nat.le_refl _)
  have HB0 := Aside0.mk hb0
  have HG0 := Aside0.mk hg0
  have HN0 := Aside0.mk hn0
  clear hb0 hg0 hn0 h
  go_enter Tryz.func11, Tryz.ntmps11
  go_wp2_with fail
  refine (meet_no HN0.out HG0.out x).mono ?_
  rintro e w1 ⟨rfl, hb⟩
  have HG1 := Aside0.mk (HG0.out.below hb)
  have HB1 := Aside0.mk (below_step HB0.out hb)
  clear hb HB0 HG0 HN0
  go_wp2_with fail
  go_loopw [6] (fun v wr => v = .int .i64 0 ∧ Aside0 (wr = w1)) (fun v wr => 2 - (intOf v).toNat)
  case atStart => exact ⟨rfl, ⟨rfl⟩⟩
  case round =>
    obtain ⟨rfl, HW⟩ := hrel
    obtain rfl := HW.out
    have c1 : wr.cell? ⟨w.heap.size + 1, 1, none⟩ = some (.slice none 0 0) := (blk_cell HG1.out.gr 1).trans rfl
    go_wp2_with fail
    go_returns
    exact ⟨_, rfl, ⟨_, HG1.out⟩, HB1.out⟩
set_option maxRecDepth 100000 in
theorem reach_no {w : World} {p : Value} (h : NoH w p) (x : Int) : Calls Tryz.prog 6 #[p, .int .i64 x] w fun e w' => e = .returned (.int .i64 0) ∧ Below w.heap.size w w' := by
  have H := Aside0.mk h
  clear h
  go_enter Tryz.func6, Tryz.ntmps6
  go_wp2_with fail
  refine (of_no H.out x).mono ?_
  rintro e w1 ⟨g, mb, rfl, hg, hb⟩
  have c1 : w1.cell? ⟨g, 1, none⟩ = some (.slice none 0 0) := (blk_cell hg.gr 1).trans rfl
  have HB := Aside0.mk hb
  clear hb hg H
  go_wp2_with fail
  go_returns
  exact ⟨rfl, HB.out⟩
/-- A heap behind New. -/
structure HpNew (w : World) (g b : Nat) : Prop where
  hp : w.heap[g]? = some (.cells #[.map (some b), .int .i64 2, .slice none 0 0, .int .i64 5000, .int .i64 200000, .int .i64 0, .int .i64 0, .int .i64 0, .int .i64 0, .bool false] 29 (0, 0))
  mp : MapIs w b []
theorem pair0 (w : World) : (Instr.index 27 (.agg #[.int .i64 5000, .int .i64 200000]) (.int .i64 0)).run Tryz.prog w = .ok (.int .i64 5000) w := by
  simp [Instr.index, run_underlying Tryz.underlying27, go_sem]
  try rfl
theorem pair1 (w : World) : (Instr.index 27 (.agg #[.int .i64 5000, .int .i64 200000]) (.int .i64 1)).run Tryz.prog w = .ok (.int .i64 200000) w := by
  simp [Instr.index, run_underlying Tryz.underlying27, go_sem]
  try rfl
set_option maxRecDepth 100000 in
theorem new_ok (w : World) : Calls Tryz.prog 28 #[.int .i64 5000, .int .i64 200000] w fun e w' => ∃ g b, e = .returned (.tuple #[.pointer (some ⟨g, 0, none⟩), .int .i64 0]) ∧ (HpNew w' g b ∧ w.heap.size ≤ g) ∧ Below w.heap.size w w' := by
  have hp0 := pair0
  have hp1 := pair1
  have hmm := @run_makeMap Tryz.prog
  go_enter Tryz.func28, Tryz.ntmps28
  go_wp2_with fail
  go_loopw [11] (fun v wr => (∃ i : Nat, v = .int .i64 i ∧ Aside0 (i ≤ 2)) ∧ Aside0 (wr = w)) (fun v wr => 2 - (intOf v).toNat)
  case atStart => exact ⟨⟨0, rfl, ⟨Nat.zero_le _⟩⟩, ⟨rfl⟩⟩
  case round =>
    obtain ⟨⟨i, rfl, hi⟩, HW⟩ := hrel
    obtain rfl := HW.out
    have hi2 := hi.out
    match i, hi2 with
    | 0, _ =>
      go_wp2_with fail
      go_roundw
      case rel => exact ⟨⟨1, by go_num, ⟨by decide⟩⟩, ⟨trivial⟩⟩
      case measure => simp [intOf]
    | 1, _ =>
      go_wp2_with fail
      go_roundw
      case rel => exact ⟨⟨2, by go_num, ⟨by decide⟩⟩, ⟨trivial⟩⟩
      case measure => simp [intOf]
    | 2, _ =>
      go_wp2_with fail
      go_returns
      have hm := MapIs.new wr
      have hs : (wr.alloc (.map #[] 0)).heap.size = wr.heap.size + 1 := by simp
      refine ⟨wr.heap.size + 1, rfl, ⟨⟨wr.heap.size, ?_, hm.below ((Below.refl _ _).alloc (Nat.le_refl _) _)⟩, Nat.le_succ _⟩, ((Below.refl _ _).alloc (Nat.le_refl _) _).alloc (by omega) _⟩
      rw [← hs]
      exact heap_alloc_new _ _
set_option maxRecDepth 100000 in
theorem room_ok (w : World) : Calls Tryz.prog 8 #[] w fun e w' => ∃ g b, e = .returned (.pointer (some ⟨g, 0, none⟩)) ∧ (HpNew w' g b ∧ w.heap.size ≤ g) ∧ Below w.heap.size w w' := by
  go_enter Tryz.func8, Tryz.ntmps8
  go_wp2_with fail
  refine (new_ok _).mono ?_
  rintro e w1 ⟨g, b, rfl, hh, hb⟩
  have H := Aside0.mk (And.intro hh hb)
  clear hh hb
  go_wp2_with fail
  go_returns
  exact ⟨g, b, rfl, H.out⟩
set_option maxRecDepth 100000 in
theorem made_new {w : World} {g b : Nat} (h : HpNew w g b) : Calls Tryz.prog 47 #[.pointer (some ⟨g, 0, none⟩)] w fun e w' => e = .returned (.bool true) ∧ w' = w := by
  have c0 : w.cell? ⟨g, 0, none⟩ = some (.map (some b)) := (blk_cell h.hp 0).trans rfl
  have hmn : (binOp .neq 24 (.map (some b)) (.map none)).run Tryz.prog w = .ok (.bool true) w := run_neq_map_nil w 24 25 78 (some b) Tryz.underlying24
  clear h
  go_enter Tryz.func47, Tryz.ntmps47
  go_wp2
  go_returns
  exact ⟨rfl, rfl⟩
set_option maxRecDepth 100000 in
set_option maxHeartbeats 1000000 in
theorem pop_new {w : World} {g b : Nat} (h : HpNew w g b) : Calls Tryz.prog 24 #[.pointer (some ⟨g, 0, none⟩), .int .i64 0] w fun e w' => e = .returned (.int .i64 0) ∧ HpNew w' g b ∧ Below g w w' := by
  have H := Aside0.mk h
  have c2 : w.cell? ⟨g, 2, none⟩ = some (.slice none 0 0) := (blk_cell h.hp 2).trans rfl
  have c2d : w.drew.cell? ⟨g, 2, none⟩ = some (.slice none 0 0) := c2
  have f2d : w.drew.frozen? ⟨g, 2, none⟩ = false := blk_frozen h.hp 2
  clear h
  go_enter Tryz.func24, Tryz.ntmps24
  go_wp2_with fail
  refine (made_new H.out).mono ?_
  rintro e w1 ⟨rfl, rfl⟩
  go_wp2_with fail
  refine start_ (n := 16) (S := (fun w' => w'.cell? ⟨g, 2, none⟩ = some (.slice none 0 0))) (ds := [15]) #[false, false, false, false, false, false, false, false, false, false, false, false, false, false, false, false] (by kernel_rfl) rfl rfl c2d (fun hHeld => ?_)
  refine take_ (i := 0) (N := some 19) (v := ?_) (a' := ?_) #[true, false, false, false, false, false, false, false, false, false, false, false, false, false, false, false] rfl rfl (by kernel_rfl) (fun _ _ _ h => h) (Or.inl ⟨by rfl, ?_⟩) hHeld ?_ ?_
  rotate_left
  · rintro w' s0
    go_simp
    with_reducible rfl
  rotate_left
  · simp only [Act.put, List.setIfInBounds_toArray, List.set_cons_zero, List.set_cons_succ, i64_w, i32_w]
    rfl
  refine take_ (i := 1) (N := some 20) (v := ?_) (a' := ?_) #[true, true, false, false, false, false, false, false, false, false, false, false, false, false, false, false] rfl rfl (by kernel_rfl) (fun _ _ _ h => h) (Or.inl ⟨by rfl, ?_⟩) hHeld ?_ ?_
  rotate_left
  · rintro w' s0
    go_simp
    with_reducible rfl
  rotate_left
  · simp only [Act.put, List.setIfInBounds_toArray, List.set_cons_zero, List.set_cons_succ, i64_w, i32_w]
    rfl
  refine take_ (i := 2) (N := some 21) (v := ?_) (a' := ?_) #[true, true, true, false, false, false, false, false, false, false, false, false, false, false, false, false] rfl rfl (by kernel_rfl) (fun _ _ _ h => h) (Or.inl ⟨by rfl, ?_⟩) hHeld ?_ ?_
  rotate_left
  · rintro w' s0
    go_simp
    with_reducible rfl
  rotate_left
  · simp only [Act.put, List.setIfInBounds_toArray, List.set_cons_zero, List.set_cons_succ, i64_w, i32_w]
    rfl
  refine take_ (i := 3) (N := some 22) (v := ?_) (a' := ?_) #[true, true, true, true, false, false, false, false, false, false, false, false, false, false, false, false] rfl rfl (by kernel_rfl) (fun _ _ _ h => h) (Or.inl ⟨by rfl, ?_⟩) hHeld ?_ ?_
  rotate_left
  · rintro w' s0
    go_simp
    with_reducible rfl
  rotate_left
  · simp only [Act.put, List.setIfInBounds_toArray, List.set_cons_zero, List.set_cons_succ, i64_w, i32_w]
    rfl
  refine take_ (i := 4) (N := some 23) (v := ?_) (a' := ?_) #[true, true, true, true, true, false, false, false, false, false, false, false, false, false, false, false] rfl rfl (by kernel_rfl) (fun _ _ _ h => h) (Or.inl ⟨by rfl, ?_⟩) hHeld ?_ ?_
  rotate_left
  · rintro w' s0
    go_simp
    with_reducible rfl
  rotate_left
  · simp only [Act.put, List.setIfInBounds_toArray, List.set_cons_zero, List.set_cons_succ, i64_w, i32_w]
    rfl
  refine take_ (i := 5) (N := some 24) (v := ?_) (a' := ?_) #[true, true, true, true, true, true, false, false, false, false, false, false, false, false, false, false] rfl rfl (by kernel_rfl) (fun _ _ _ h => h) (Or.inl ⟨by rfl, ?_⟩) hHeld ?_ ?_
  rotate_left
  · rintro w' s0
    go_simp
    with_reducible rfl
  rotate_left
  · simp only [Act.put, List.setIfInBounds_toArray, List.set_cons_zero, List.set_cons_succ, i64_w, i32_w]
    rfl
  refine take_ (i := 6) (N := some 25) (v := ?_) (a' := ?_) #[true, true, true, true, true, true, true, false, false, false, false, false, false, false, false, false] rfl rfl (by kernel_rfl) (fun _ _ _ h => h) (Or.inl ⟨by rfl, ?_⟩) hHeld ?_ ?_
  rotate_left
  · rintro w' s0
    go_simp
    with_reducible rfl
  rotate_left
  · simp only [Act.put, List.setIfInBounds_toArray, List.set_cons_zero, List.set_cons_succ, i64_w, i32_w]
    rfl
  refine take_ (i := 7) (N := some 26) (v := ?_) (a' := ?_) #[true, true, true, true, true, true, true, true, false, false, false, false, false, false, false, false] rfl rfl (by kernel_rfl) (fun _ _ _ h => h) (Or.inl ⟨by rfl, ?_⟩) hHeld ?_ ?_
  rotate_left
  · rintro w' s0
    go_simp
    with_reducible rfl
  rotate_left
  · simp only [Act.put, List.setIfInBounds_toArray, List.set_cons_zero, List.set_cons_succ, i64_w, i32_w]
    rfl
  refine take_ (i := 8) (N := some 27) (v := ?_) (a' := ?_) #[true, true, true, true, true, true, true, true, true, false, false, false, false, false, false, false] rfl rfl (by kernel_rfl) (fun _ _ _ h => h) (Or.inl ⟨by rfl, ?_⟩) hHeld ?_ ?_
  rotate_left
  · rintro w' s0
    go_simp
    with_reducible rfl
  rotate_left
  · simp only [Act.put, List.setIfInBounds_toArray, List.set_cons_zero, List.set_cons_succ, i64_w, i32_w]
    rfl
  refine take_ (i := 9) (N := some 28) (v := ?_) (a' := ?_) #[true, true, true, true, true, true, true, true, true, true, false, false, false, false, false, false] rfl rfl (by kernel_rfl) (fun _ _ _ h => h) (Or.inl ⟨by rfl, ?_⟩) hHeld ?_ ?_
  rotate_left
  · rintro w' s0
    go_simp
    with_reducible rfl
  rotate_left
  · simp only [Act.put, List.setIfInBounds_toArray, List.set_cons_zero, List.set_cons_succ, i64_w, i32_w]
    rfl
  refine take_ (i := 10) (N := some 29) (v := ?_) (a' := ?_) #[true, true, true, true, true, true, true, true, true, true, true, false, false, false, false, false] rfl rfl (by kernel_rfl) (fun _ _ _ h => h) (Or.inl ⟨by rfl, ?_⟩) hHeld ?_ ?_
  rotate_left
  · rintro w' s0
    go_simp
    with_reducible rfl
  rotate_left
  · simp only [Act.put, List.setIfInBounds_toArray, List.set_cons_zero, List.set_cons_succ, i64_w, i32_w]
    rfl
  refine take_ (i := 11) (N := some 30) (v := .int .i64 0) (a' := ?_) #[true, true, true, true, true, true, true, true, true, true, true, true, false, false, false, false] rfl rfl (by kernel_rfl) (fun _ _ _ h => h) (Or.inl ⟨by rfl, by rintro w' s0; go_simp; rfl⟩) hHeld ?_ ?_
  rotate_left
  · simp only [Act.put, List.setIfInBounds_toArray, List.set_cons_zero, List.set_cons_succ, i64_w, i32_w]
    rfl
  refine take_ (i := 12) (N := some 31) (v := ?_) (a' := ?_) #[true, true, true, true, true, true, true, true, true, true, true, true, true, false, false, false] rfl rfl (by kernel_rfl) (fun _ _ _ h => h) (Or.inl ⟨by rfl, ?_⟩) hHeld ?_ ?_
  rotate_left
  · rintro w' s0
    go_simp
    with_reducible rfl
  rotate_left
  · simp only [Act.put, List.setIfInBounds_toArray, List.set_cons_zero, List.set_cons_succ, i64_w, i32_w]
    rfl
  refine take_ (i := 13) (N := some 32) (v := ?_) (a' := ?_) #[true, true, true, true, true, true, true, true, true, true, true, true, true, true, false, false] rfl rfl (by kernel_rfl) (fun _ _ _ h => h) (Or.inl ⟨by rfl, ?_⟩) hHeld ?_ ?_
  rotate_left
  · rintro w' s0
    go_simp
    with_reducible rfl
  rotate_left
  · simp only [Act.put, List.setIfInBounds_toArray, List.set_cons_zero, List.set_cons_succ, i64_w, i32_w]
    rfl
  refine take_ (i := 14) (N := some 33) (v := ?_) (a' := ?_) #[true, true, true, true, true, true, true, true, true, true, true, true, true, true, true, false] rfl rfl (by kernel_rfl) (fun _ _ _ h => h) (Or.inl ⟨by rfl, ?_⟩) hHeld ?_ ?_
  rotate_left
  · rintro w' s0
    go_simp
    with_reducible rfl
  rotate_left
  · simp only [Act.put, List.setIfInBounds_toArray, List.set_cons_zero, List.set_cons_succ, i64_w, i32_w]
    rfl
  refine last_ (i := 15) (N := none) #[true, true, true, true, true, true, true, true, true, true, true, true, true, true, true, true] rfl rfl (by kernel_rfl) (by decide) (fun K hK => ?_)
  refine skip_ (w1 := ?_) (by rfl) rfl ?_ ?_
  rotate_left
  · go_simp
    rfl
  refine hK.out _ _ ?_
  clear hK K
  refine done_ (by kernel_rfl) ?_
  go_wp2_with fail
  go_returns
  have f := blk_put (blk_drew H.out.hp) 2 (.slice none 0 0) rfl
  have hbg : b ≠ g := fun e => by
    obtain ⟨es, cl, h1, _⟩ := H.out.mp
    rw [e, H.out.hp] at h1; simp at h1
  refine ⟨rfl, ⟨blk_drew f, ?_⟩, ?_⟩
  · obtain ⟨es, cl, h1, h2, h3⟩ := H.out.mp
    exact ⟨es, cl, (Below.heap_setCell _ _ _ _ hbg).trans h1, h2, h3⟩
  · exact Below.setCell (p := ⟨g, 2, none⟩) (below_drew1 (Below.refl g w1)) (Nat.le_refl g) _
end Go.Proofs.YteidjfkgfmgfpaaGreatDoor.S
