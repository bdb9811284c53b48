/- stm: Get. -/
import Derived.Test.YtkjliijcnllohaaHPut
namespace Go.Proofs.Ytkjliijcnllohaa.S
open Go.RowKit Go.Proofs.YtkjliijcnllohaaW.PrintWords Go.Proofs.YtkjliijcnllohaaW.PrintLast Go.Proofs.YtkjliijcnllohaaW.PrintMore
set_option linter.unusedVariables false
set_option linter.unusedSimpArgs false
attribute [local go_sem ↓] Go.wp_at_zero Go.wp_at_succ

theorem SpAt.drew {w : World} {s bm : Nat} {clock : Int} {S : List Ent} (h : SpAt w s bm clock S) : SpAt w.drew s bm clock S := ⟨h.sp, h.mp, h.slot, h.apart, h.locks, h.rows⟩
theorem sp_ne_map {w : World} {s bm b : Nat} {clock : Int} {S : List Ent} {m : List (ByteArray × Value)} (h : SpAt w s bm clock S) (hm : MapIs w b m) : s ≠ b := fun e => by
  obtain ⟨es, c, hb, _⟩ := hm
  have := h.sp
  rw [e, hb] at this
  cases this
theorem g_ne_map {w : World} {s bm b : Nat} {clock : Int} {S : List Ent} {m : List (ByteArray × Value)} (h : SpAt w s bm clock S) {x : Ent} (hx : x ∈ S) (hm : MapIs w b m) : x.g ≠ b := fun e => by
  obtain ⟨es, c, hb, _⟩ := hm
  have := h.slot x hx
  rw [e, hb] at this
  cases this
theorem ensure_gs (S : List Ent) (name : ByteArray) (g : Nat) {i : Nat} (hi : i < g) (h : i ∈ gs (ensure S name g)) : i ∈ gs S := by
  unfold ensure at h
  split at h
  · exact h
  · unfold gs at h ⊢
    rw [List.map_append, List.mem_append] at h
    rcases h with h | h
    · exact h
    · simp [newEnt] at h; omega
theorem get_fr {w w3 w4 : World} {s bm t : Nat} {clock : Int} {S : List Ent} {name : ByteArray} (h : SpAt w s bm clock S) (h1 : Fr [bm] w w3) (h2 : Fr (t :: gs (ensure S name w.heap.size)) w3.drew w4) : Fr (bm :: t :: gs S) w w4 := by
  have h3 : Fr (t :: gs (ensure S name w.heap.size)) w3 w4 := ⟨h2.os, h2.tape, h2.output, h2.size, h2.block, h2.rows, h2.kinds⟩
  refine (h1.mono (fun k _ hk => by simp at hk; simp [hk])).trans' h3 (fun i hi hm => ?_)
  rcases List.mem_cons.1 hm with rfl | hm
  · simp
  · exact List.mem_cons_of_mem _ (List.mem_cons_of_mem _ (ensure_gs S name _ hi hm))
set_option maxRecDepth 100000 in
theorem get_state {w : World} {t s br bw : Nat} {time phase : Int} (hT : TxAt w t s time phase br bw) (hp : phase ≠ 0) (name : ByteArray) :
    Calls Try.prog 12 #[ptr t, .string name] w fun e w' => e = .returned (.tuple #[.slice none 0 0, .int .i64 3]) ∧ w' = w := by
  have HT := Aside0.mk hT
  have HP := Aside0.mk hp
  clear hT hp
  unfold ptr
  go_enter Try.func12, Try.ntmps12
  go_wp2_with fail
  refine (in_calls HT.out 0).mono ?_
  rintro e w1 ⟨rfl, rfl⟩
  rw [if_neg HP.out]
  go_wp2_with fail
  go_returns
  exact ⟨rfl, rfl⟩
set_option maxRecDepth 100000 in
theorem get_name {w : World} {t s br bw : Nat} {time : Int} (hT : TxAt w t s time 0 br bw) (name : ByteArray) (hfit : fitB name = false) :
    Calls Try.prog 12 #[ptr t, .string name] w fun e w' => e = .returned (.tuple #[.slice none 0 0, .int .i64 6]) ∧ Fr [] w w' := by
  have HT := Aside0.mk hT
  have HF := Aside0.mk hfit
  clear hT hfit
  unfold ptr
  go_enter Try.func12, Try.ntmps12
  go_wp2_with fail
  refine (in_calls HT.out 0).mono ?_
  rintro e w1 ⟨rfl, rfl⟩
  go_wp2_with fail
  refine (fit_calls name _).mono ?_
  rintro e w1 ⟨rfl, ⟨nd, rfl⟩⟩
  rw [HF.out]
  go_wp2_with fail
  go_returns
  exact ⟨rfl, Fr.drewN _ _⟩

set_option maxRecDepth 100000 in
/-- Get of what the transaction has put itself. -/
theorem get_own {w : World} {t s br bw : Nat} {time : Int} {m : List (ByteArray × Value)} (hT : TxAt w t s time 0 br bw) (hm : MapIs w bw m) (name : ByteArray) (hfit : fitB name = true) {v : Value} {xs : List Int} (hg : get? m name = some v) (hv : RowAt w v xs) :
    Calls Try.prog 12 #[ptr t, .string name] w fun e w' => ∃ v', e = .returned (.tuple #[v', .int .i64 0]) ∧ RowAt w' v' xs ∧ Fr [] w w' := by
  have HT := Aside0.mk hT
  have HM := Aside0.mk hm
  have HF := Aside0.mk hfit
  have HG := Aside0.mk hg
  have HV := Aside0.mk hv
  clear hT hm hfit hg hv
  unfold ptr
  go_enter Try.func12, Try.ntmps12
  go_wp2_with fail
  refine (in_calls HT.out 0).mono ?_
  rintro e w1 ⟨rfl, rfl⟩
  go_wp2_with fail
  refine (fit_calls name _).mono ?_
  rintro e w2 ⟨rfl, ⟨nd, rfl⟩⟩
  rw [HF.out]
  have hl := map_lookup (P := Try.prog) Try.underlying47 Try.underlying9 (Try.zeroValue22 (w1.drewN nd)) (HM.out.drewN nd) name true
  rw [HG.out] at hl
  simp only [Option.getD_some, Option.isSome_some, if_true] at hl
  have c4 : (w1.drewN nd).cell? ⟨t, 4, none⟩ = some (.map (some bw)) := (HT.out.drewN nd).c4
  go_wp2_with fail
  refine (clone_calls ((HV.out.reads).drewN _)).mono ?_
  rintro e w3 ⟨v', rfl, hr, hb⟩
  have HR := Aside0.mk hr
  have HB := Aside0.mk hb
  clear hr hb hl c4
  go_wp2
  go_returns
  exact ⟨v', rfl, HR.out, (Fr.drewN w1 _).trans (Fr.ofBelow HB.out _)⟩

set_option maxRecDepth 100000 in
set_option maxHeartbeats 4000000 in
/-- Get of what it has not put: it clashes, or it has read it. -/
theorem get_other {w : World} {t s bm br bw : Nat} {clock time : Int} {S : List Ent} {m mr : List (ByteArray × Value)} (h : SpAt w s bm clock S) (hT : TxAt w t s time 0 br bw) (hm : MapIs w bw m) (hr : MapIs w br mr) (hbr : br ≠ bm) (name : ByteArray) (hfit : fitB name = true) (hg : get? m name = none) :
    Calls Try.prog 12 #[ptr t, .string name] w fun e w' => ∃ x ∈ ensure S name w.heap.size, x.name = name ∧
      if x.lock = none ∧ x.ver ≤ time then ∃ v', e = .returned (.tuple #[v', .int .i64 0]) ∧ RowAt w' v' x.bs ∧ SpAt w' s bm clock (ensure S name w.heap.size) ∧ TxAt w' t s time 0 br bw ∧ MapIs w' br (put mr name (.bool true)) ∧ Fr [bm, br] w w'
      else e = .returned (.tuple #[.slice none 0 0, .int .i64 180]) ∧ SpAt w' s bm clock ((ensure S name w.heap.size).map (Ent.unlock t)) ∧ TxAt w' t s time 4 br bw ∧ Fr (bm :: t :: gs S) w w' := by
  have HS := Aside0.mk h
  have HT := Aside0.mk hT
  have HM := Aside0.mk hm
  have HMR := Aside0.mk hr
  have HBR := Aside0.mk hbr
  have HF := Aside0.mk hfit
  have HG := Aside0.mk hg
  clear h hT hm hr hfit hg hbr
  unfold ptr
  go_enter Try.func12, Try.ntmps12
  go_wp2_with fail
  refine (in_calls HT.out 0).mono ?_
  rintro e w1 ⟨rfl, rfl⟩
  go_wp2_with fail
  refine (fit_calls name _).mono ?_
  rintro e w2 ⟨rfl, ⟨nd, rfl⟩⟩
  rw [HF.out]
  have hl := map_lookup (P := Try.prog) Try.underlying47 Try.underlying9 (Try.zeroValue22 (w1.drewN nd)) (HM.out.drewN nd) name true
  rw [HG.out] at hl
  simp only [Option.getD_none, Option.isSome_none, if_true] at hl
  have c4 : (w1.drewN nd).cell? ⟨t, 4, none⟩ = some (.map (some bw)) := (HT.out.drewN nd).c4
  have c0 : (w1.drewN nd).cell? ⟨t, 0, none⟩ = some (.pointer (some ⟨s, 0, none⟩)) := (HT.out.drewN nd).c0
  go_wp2_with fail
  refine (at_calls (w := w1.drewN nd) (show SpAt (w1.drewN nd) s bm clock S from ⟨HS.out.sp, HS.out.mp, HS.out.slot, HS.out.apart, HS.out.locks, HS.out.rows⟩) name).mono ?_
  rintro e w3 ⟨x, hx, hxn, rfl, hs3, hf3⟩
  have hsz : (w1.drewN nd).heap.size = w1.heap.size := rfl
  rw [hsz] at hx hs3
  have HX := Aside0.mk (And.intro hx hxn)
  have HS3 := Aside0.mk hs3
  have HF3 := Aside0.mk ((Fr.drewN w1 nd).trans hf3)
  have HT3 := Aside0.mk (HT.out.fr HF3.out (by simp only [List.mem_singleton]; exact HT.out.ne_map HS.out.mp))
  have d0 := Ent.c0 (hs3.slot x hx)
  have d3 := Ent.c3 (hs3.slot x hx)
  have d1 := HT3.out.c1
  clear hx hxn hs3 hf3 hsz hl c4 c0
  unfold ptr
  cases hxl : x.lock with
  | some b =>
    rw [hxl] at d3
    unfold lockV ptr at d3
    have HC := Aside0.mk hxl
    clear hxl
    go_wp2_with fail
    refine start_ (n := 16) (S := (fun w' => w'.cell? ⟨x.g, 3, none⟩ = some (.pointer (some ⟨b, 0, none⟩)) ∧ w'.cell? ⟨x.g, 0, none⟩ = some (.int .i64 x.ver) ∧ w'.cell? ⟨t, 1, none⟩ = some (.int .i64 time))) (ds := []) #[false, false, false, false, false, false, false, false, false, false, false, false, false, false, false, false] (by kernel_rfl) rfl rfl ⟨d3, d0, d1⟩ (fun hHeld => ?_)
    refine take_ (i := 0) (N := some 36) (v := ?_) (a' := ?_) #[true, false, false, false, false, false, false, false, false, false, false, false, false, false, false, false] rfl rfl (by kernel_rfl) (fun _ _ _ h => h) (Or.inl ⟨by rfl, ?_⟩) hHeld ?_ ?_
    rotate_left
    · rintro w' ⟨s0, s1, s2⟩
      go_simp
      with_reducible rfl
    rotate_left
    · simp only [Act.put, List.setIfInBounds_toArray, List.set_cons_zero, List.set_cons_succ, i64_w, i32_w]
      rfl
    refine take_ (i := 1) (N := some 37) (v := ?_) (a' := ?_) #[true, true, false, false, false, false, false, false, false, false, false, false, false, false, false, false] rfl rfl (by kernel_rfl) (fun _ _ _ h => h) (Or.inl ⟨by rfl, ?_⟩) hHeld ?_ ?_
    rotate_left
    · rintro w' ⟨s0, s1, s2⟩
      go_simp
      with_reducible rfl
    rotate_left
    · simp only [Act.put, List.setIfInBounds_toArray, List.set_cons_zero, List.set_cons_succ, i64_w, i32_w]
      rfl
    refine take_ (i := 2) (N := some 38) (v := ?_) (a' := ?_) #[true, true, true, false, false, false, false, false, false, false, false, false, false, false, false, false] rfl rfl (by kernel_rfl) (fun _ _ _ h => h) (Or.inl ⟨by rfl, ?_⟩) hHeld ?_ ?_
    rotate_left
    · rintro w' ⟨s0, s1, s2⟩
      go_simp
      with_reducible rfl
    rotate_left
    · simp only [Act.put, List.setIfInBounds_toArray, List.set_cons_zero, List.set_cons_succ, i64_w, i32_w]
      rfl
    refine take_ (i := 3) (N := some 39) (v := ?_) (a' := ?_) #[true, true, true, true, false, false, false, false, false, false, false, false, false, false, false, false] rfl rfl (by kernel_rfl) (fun _ _ _ h => h) (Or.inl ⟨by rfl, ?_⟩) hHeld ?_ ?_
    rotate_left
    · rintro w' ⟨s0, s1, s2⟩
      go_simp
      with_reducible rfl
    rotate_left
    · simp only [Act.put, List.setIfInBounds_toArray, List.set_cons_zero, List.set_cons_succ, i64_w, i32_w]
      rfl
    refine take_ (i := 4) (N := some 40) (v := ?_) (a' := ?_) #[true, true, true, true, true, false, false, false, false, false, false, false, false, false, false, false] rfl rfl (by kernel_rfl) (fun _ _ _ h => h) (Or.inl ⟨by rfl, ?_⟩) hHeld ?_ ?_
    rotate_left
    · rintro w' ⟨s0, s1, s2⟩
      go_simp
      with_reducible rfl
    rotate_left
    · simp only [Act.put, List.setIfInBounds_toArray, List.set_cons_zero, List.set_cons_succ, i64_w, i32_w]
      rfl
    refine take_ (i := 5) (N := some 41) (v := ?_) (a' := ?_) #[true, true, true, true, true, true, false, false, false, false, false, false, false, false, false, false] rfl rfl (by kernel_rfl) (fun _ _ _ h => h) (Or.inl ⟨by rfl, ?_⟩) hHeld ?_ ?_
    rotate_left
    · rintro w' ⟨s0, s1, s2⟩
      go_simp
      with_reducible rfl
    rotate_left
    · simp only [Act.put, List.setIfInBounds_toArray, List.set_cons_zero, List.set_cons_succ, i64_w, i32_w]
      rfl
    refine take_ (i := 6) (N := some 42) (v := undef) (a' := ?_) #[true, true, true, true, true, true, true, false, false, false, false, false, false, false, false, false] rfl rfl (by kernel_rfl) (fun _ _ _ h => h) (Or.inr ⟨by rfl, rfl⟩) hHeld ?_ ?_
    rotate_left
    · simp only [Act.put, List.setIfInBounds_toArray, List.set_cons_zero, List.set_cons_succ, i64_w, i32_w]
      rfl
    refine take_ (i := 7) (N := some 43) (v := undef) (a' := ?_) #[true, true, true, true, true, true, true, true, false, false, false, false, false, false, false, false] rfl rfl (by kernel_rfl) (fun _ _ _ h => h) (Or.inr ⟨by rfl, rfl⟩) hHeld ?_ ?_
    rotate_left
    · simp only [Act.put, List.setIfInBounds_toArray, List.set_cons_zero, List.set_cons_succ, i64_w, i32_w]
      rfl
    refine take_ (i := 8) (N := some 44) (v := undef) (a' := ?_) #[true, true, true, true, true, true, true, true, true, false, false, false, false, false, false, false] rfl rfl (by kernel_rfl) (fun _ _ _ h => h) (Or.inr ⟨by rfl, rfl⟩) hHeld ?_ ?_
    rotate_left
    · simp only [Act.put, List.setIfInBounds_toArray, List.set_cons_zero, List.set_cons_succ, i64_w, i32_w]
      rfl
    refine take_ (i := 9) (N := some 45) (v := undef) (a' := ?_) #[true, true, true, true, true, true, true, true, true, true, false, false, false, false, false, false] rfl rfl (by kernel_rfl) (fun _ _ _ h => h) (Or.inr ⟨by rfl, rfl⟩) hHeld ?_ ?_
    rotate_left
    · simp only [Act.put, List.setIfInBounds_toArray, List.set_cons_zero, List.set_cons_succ, i64_w, i32_w]
      rfl
    refine take_ (i := 10) (N := some 46) (v := undef) (a' := ?_) #[true, true, true, true, true, true, true, true, true, true, true, false, false, false, false, false] rfl rfl (by kernel_rfl) (fun _ _ _ h => h) (Or.inr ⟨by rfl, rfl⟩) hHeld ?_ ?_
    rotate_left
    · simp only [Act.put, List.setIfInBounds_toArray, List.set_cons_zero, List.set_cons_succ, i64_w, i32_w]
      rfl
    refine take_ (i := 11) (N := some 47) (v := undef) (a' := ?_) #[true, true, true, true, true, true, true, true, true, true, true, true, false, false, false, false] rfl rfl (by kernel_rfl) (fun _ _ _ h => h) (Or.inr ⟨by rfl, rfl⟩) hHeld ?_ ?_
    rotate_left
    · simp only [Act.put, List.setIfInBounds_toArray, List.set_cons_zero, List.set_cons_succ, i64_w, i32_w]
      rfl
    refine take_ (i := 12) (N := some 48) (v := undef) (a' := ?_) #[true, true, true, true, true, true, true, true, true, true, true, true, true, false, false, false] rfl rfl (by kernel_rfl) (fun _ _ _ h => h) (Or.inr ⟨by rfl, rfl⟩) hHeld ?_ ?_
    rotate_left
    · simp only [Act.put, List.setIfInBounds_toArray, List.set_cons_zero, List.set_cons_succ, i64_w, i32_w]
      rfl
    refine take_ (i := 13) (N := some 49) (v := undef) (a' := ?_) #[true, true, true, true, true, true, true, true, true, true, true, true, true, true, false, false] rfl rfl (by kernel_rfl) (fun _ _ _ h => h) (Or.inr ⟨by rfl, rfl⟩) hHeld ?_ ?_
    rotate_left
    · simp only [Act.put, List.setIfInBounds_toArray, List.set_cons_zero, List.set_cons_succ, i64_w, i32_w]
      rfl
    refine take_ (i := 14) (N := some 50) (v := undef) (a' := ?_) #[true, true, true, true, true, true, true, true, true, true, true, true, true, true, true, false] rfl rfl (by kernel_rfl) (fun _ _ _ h => h) (Or.inr ⟨by rfl, rfl⟩) hHeld ?_ ?_
    rotate_left
    · simp only [Act.put, List.setIfInBounds_toArray, List.set_cons_zero, List.set_cons_succ, i64_w, i32_w]
      rfl
    refine take_ (i := 15) (N := some 51) (v := ?_) (a' := ?_) #[true, true, true, true, true, true, true, true, true, true, true, true, true, true, true, true] rfl rfl (by kernel_rfl) (fun _ _ _ h => h) (Or.inl ⟨by rfl, ?_⟩) hHeld ?_ ?_
    rotate_left
    · rintro w' ⟨s0, s1, s2⟩
      go_simp
      with_reducible rfl
    rotate_left
    · simp only [Act.put, List.setIfInBounds_toArray, List.set_cons_zero, List.set_cons_succ, i64_w, i32_w]
      rfl
    refine done_ (by kernel_rfl) ?_
    clear d0 d1 d3 hHeld
    go_wp2_with fail
    refine (clash_calls (HS3.out.drew) (HT3.out.drewN 1)).mono ?_
    rintro e w4 ⟨rfl, h1, h2, h3⟩
    have H4 := Aside0.mk (And.intro h1 (And.intro h2 h3))
    clear h1 h2 h3
    go_wp2
    go_returns
    refine ⟨x, HX.out.1, HX.out.2, ?_⟩
    rw [if_neg (by rw [HC.out]; simp)]
    exact ⟨rfl, H4.out.1, H4.out.2.1, get_fr HS.out HF3.out H4.out.2.2⟩
  | none =>
    rw [hxl] at d3
    unfold lockV at d3
    have HC := Aside0.mk hxl
    clear hxl
    go_wp2_with fail
    refine start_ (n := 16) (S := (fun w' => w'.cell? ⟨x.g, 3, none⟩ = some (.pointer none) ∧ w'.cell? ⟨x.g, 0, none⟩ = some (.int .i64 x.ver) ∧ w'.cell? ⟨t, 1, none⟩ = some (.int .i64 time))) (ds := []) #[false, false, false, false, false, false, false, false, false, false, false, false, false, false, false, false] (by kernel_rfl) rfl rfl ⟨d3, d0, d1⟩ (fun hHeld => ?_)
    refine take_ (i := 0) (N := some 36) (v := ?_) (a' := ?_) #[true, false, false, false, false, false, false, false, false, false, false, false, false, false, false, false] rfl rfl (by kernel_rfl) (fun _ _ _ h => h) (Or.inl ⟨by rfl, ?_⟩) hHeld ?_ ?_
    rotate_left
    · rintro w' ⟨s0, s1, s2⟩
      go_simp
      with_reducible rfl
    rotate_left
    · simp only [Act.put, List.setIfInBounds_toArray, List.set_cons_zero, List.set_cons_succ, i64_w, i32_w]
      rfl
    refine take_ (i := 1) (N := some 37) (v := ?_) (a' := ?_) #[true, true, false, false, false, false, false, false, false, false, false, false, false, false, false, false] rfl rfl (by kernel_rfl) (fun _ _ _ h => h) (Or.inl ⟨by rfl, ?_⟩) hHeld ?_ ?_
    rotate_left
    · rintro w' ⟨s0, s1, s2⟩
      go_simp
      with_reducible rfl
    rotate_left
    · simp only [Act.put, List.setIfInBounds_toArray, List.set_cons_zero, List.set_cons_succ, i64_w, i32_w]
      rfl
    refine take_ (i := 2) (N := some 38) (v := ?_) (a' := ?_) #[true, true, true, false, false, false, false, false, false, false, false, false, false, false, false, false] rfl rfl (by kernel_rfl) (fun _ _ _ h => h) (Or.inl ⟨by rfl, ?_⟩) hHeld ?_ ?_
    rotate_left
    · rintro w' ⟨s0, s1, s2⟩
      go_simp
      with_reducible rfl
    rotate_left
    · simp only [Act.put, List.setIfInBounds_toArray, List.set_cons_zero, List.set_cons_succ, i64_w, i32_w]
      rfl
    refine take_ (i := 3) (N := some 39) (v := ?_) (a' := ?_) #[true, true, true, true, false, false, false, false, false, false, false, false, false, false, false, false] rfl rfl (by kernel_rfl) (fun _ _ _ h => h) (Or.inl ⟨by rfl, ?_⟩) hHeld ?_ ?_
    rotate_left
    · rintro w' ⟨s0, s1, s2⟩
      go_simp
      with_reducible rfl
    rotate_left
    · simp only [Act.put, List.setIfInBounds_toArray, List.set_cons_zero, List.set_cons_succ, i64_w, i32_w]
      rfl
    refine take_ (i := 4) (N := some 40) (v := ?_) (a' := ?_) #[true, true, true, true, true, false, false, false, false, false, false, false, false, false, false, false] rfl rfl (by kernel_rfl) (fun _ _ _ h => h) (Or.inl ⟨by rfl, ?_⟩) hHeld ?_ ?_
    rotate_left
    · rintro w' ⟨s0, s1, s2⟩
      go_simp
      with_reducible rfl
    rotate_left
    · simp only [Act.put, List.setIfInBounds_toArray, List.set_cons_zero, List.set_cons_succ, i64_w, i32_w]
      rfl
    refine take_ (i := 5) (N := some 41) (v := ?_) (a' := ?_) #[true, true, true, true, true, true, false, false, false, false, false, false, false, false, false, false] rfl rfl (by kernel_rfl) (fun _ _ _ h => h) (Or.inl ⟨by rfl, ?_⟩) hHeld ?_ ?_
    rotate_left
    · rintro w' ⟨s0, s1, s2⟩
      go_simp
      with_reducible rfl
    rotate_left
    · simp only [Act.put, List.setIfInBounds_toArray, List.set_cons_zero, List.set_cons_succ, i64_w, i32_w]
      rfl
    refine take_ (i := 6) (N := some 42) (v := ?_) (a' := ?_) #[true, true, true, true, true, true, true, false, false, false, false, false, false, false, false, false] rfl rfl (by kernel_rfl) (fun _ _ _ h => h) (Or.inl ⟨by rfl, ?_⟩) hHeld ?_ ?_
    rotate_left
    · rintro w' ⟨s0, s1, s2⟩
      go_simp
      with_reducible rfl
    rotate_left
    · simp only [Act.put, List.setIfInBounds_toArray, List.set_cons_zero, List.set_cons_succ, i64_w, i32_w]
      rfl
    refine take_ (i := 7) (N := some 43) (v := ?_) (a' := ?_) #[true, true, true, true, true, true, true, true, false, false, false, false, false, false, false, false] rfl rfl (by kernel_rfl) (fun _ _ _ h => h) (Or.inl ⟨by rfl, ?_⟩) hHeld ?_ ?_
    rotate_left
    · rintro w' ⟨s0, s1, s2⟩
      go_simp
      with_reducible rfl
    rotate_left
    · simp only [Act.put, List.setIfInBounds_toArray, List.set_cons_zero, List.set_cons_succ, i64_w, i32_w]
      rfl
    refine take_ (i := 8) (N := some 44) (v := ?_) (a' := ?_) #[true, true, true, true, true, true, true, true, true, false, false, false, false, false, false, false] rfl rfl (by kernel_rfl) (fun _ _ _ h => h) (Or.inl ⟨by rfl, ?_⟩) hHeld ?_ ?_
    rotate_left
    · rintro w' ⟨s0, s1, s2⟩
      go_simp
      with_reducible rfl
    rotate_left
    · simp only [Act.put, List.setIfInBounds_toArray, List.set_cons_zero, List.set_cons_succ, i64_w, i32_w]
      rfl
    refine take_ (i := 9) (N := some 45) (v := ?_) (a' := ?_) #[true, true, true, true, true, true, true, true, true, true, false, false, false, false, false, false] rfl rfl (by kernel_rfl) (fun _ _ _ h => h) (Or.inl ⟨by rfl, ?_⟩) hHeld ?_ ?_
    rotate_left
    · rintro w' ⟨s0, s1, s2⟩
      go_simp
      with_reducible rfl
    rotate_left
    · simp only [Act.put, List.setIfInBounds_toArray, List.set_cons_zero, List.set_cons_succ, i64_w, i32_w]
      rfl
    refine take_ (i := 10) (N := some 46) (v := ?_) (a' := ?_) #[true, true, true, true, true, true, true, true, true, true, true, false, false, false, false, false] rfl rfl (by kernel_rfl) (fun _ _ _ h => h) (Or.inl ⟨by rfl, ?_⟩) hHeld ?_ ?_
    rotate_left
    · rintro w' ⟨s0, s1, s2⟩
      go_simp
      with_reducible rfl
    rotate_left
    · simp only [Act.put, List.setIfInBounds_toArray, List.set_cons_zero, List.set_cons_succ, i64_w, i32_w]
      rfl
    refine take_ (i := 11) (N := some 47) (v := ?_) (a' := ?_) #[true, true, true, true, true, true, true, true, true, true, true, true, false, false, false, false] rfl rfl (by kernel_rfl) (fun _ _ _ h => h) (Or.inl ⟨by rfl, ?_⟩) hHeld ?_ ?_
    rotate_left
    · rintro w' ⟨s0, s1, s2⟩
      go_simp
      with_reducible rfl
    rotate_left
    · simp only [Act.put, List.setIfInBounds_toArray, List.set_cons_zero, List.set_cons_succ, i64_w, i32_w]
      rfl
    refine take_ (i := 12) (N := some 48) (v := ?_) (a' := ?_) #[true, true, true, true, true, true, true, true, true, true, true, true, true, false, false, false] rfl rfl (by kernel_rfl) (fun _ _ _ h => h) (Or.inl ⟨by rfl, ?_⟩) hHeld ?_ ?_
    rotate_left
    · rintro w' ⟨s0, s1, s2⟩
      go_simp
      with_reducible rfl
    rotate_left
    · simp only [Act.put, List.setIfInBounds_toArray, List.set_cons_zero, List.set_cons_succ, i64_w, i32_w]
      rfl
    refine take_ (i := 13) (N := some 49) (v := ?_) (a' := ?_) #[true, true, true, true, true, true, true, true, true, true, true, true, true, true, false, false] rfl rfl (by kernel_rfl) (fun _ _ _ h => h) (Or.inl ⟨by rfl, ?_⟩) hHeld ?_ ?_
    rotate_left
    · rintro w' ⟨s0, s1, s2⟩
      go_simp
      with_reducible rfl
    rotate_left
    · simp only [Act.put, List.setIfInBounds_toArray, List.set_cons_zero, List.set_cons_succ, i64_w, i32_w]
      rfl
    refine take_ (i := 14) (N := some 50) (v := ?_) (a' := ?_) #[true, true, true, true, true, true, true, true, true, true, true, true, true, true, true, false] rfl rfl (by kernel_rfl) (fun _ _ _ h => h) (Or.inl ⟨by rfl, ?_⟩) hHeld ?_ ?_
    rotate_left
    · rintro w' ⟨s0, s1, s2⟩
      go_simp
      with_reducible rfl
    rotate_left
    · simp only [Act.put, List.setIfInBounds_toArray, List.set_cons_zero, List.set_cons_succ, i64_w, i32_w]
      rfl
    refine take_ (i := 15) (N := some 51) (v := ?_) (a' := ?_) #[true, true, true, true, true, true, true, true, true, true, true, true, true, true, true, true] rfl rfl (by kernel_rfl) (fun _ _ _ h => h) (Or.inl ⟨by rfl, ?_⟩) hHeld ?_ ?_
    rotate_left
    · rintro w' ⟨s0, s1, s2⟩
      go_simp
      with_reducible rfl
    rotate_left
    · simp only [Act.put, List.setIfInBounds_toArray, List.set_cons_zero, List.set_cons_succ, i64_w, i32_w]
      rfl
    refine done_ (by kernel_rfl) ?_
    clear d0 d1 d3 hHeld
    by_cases hv : x.ver > time
    · have hvb2 : decide (time < x.ver) = true := decide_eq_true hv
      rw [hvb2]
      have HV := Aside0.mk hv
      clear hv
      go_wp2_with fail
      refine (clash_calls (HS3.out.drew) (HT3.out.drewN 1)).mono ?_
      rintro e w4 ⟨rfl, h1, h2, h3⟩
      have H4 := Aside0.mk (And.intro h1 (And.intro h2 h3))
      clear h1 h2 h3
      go_wp2
      go_returns
      refine ⟨x, HX.out.1, HX.out.2, ?_⟩
      rw [if_neg (fun hh => by have := HV.out; omega)]
      exact ⟨rfl, H4.out.1, H4.out.2.1, get_fr HS.out HF3.out H4.out.2.2⟩
    · have hvb2 : decide (time < x.ver) = false := decide_eq_false (by omega)
      rw [hvb2]
      have HV := Aside0.mk hv
      clear hv
      have hm3 : MapIs w3.drew br mr := (HMR.out.fr HF3.out (by simpa using HBR.out)).drewN 1
      have k3 := HT3.out.c3
      obtain ⟨w4, hu, hm4, hb4⟩ := map_update (P := Try.prog) Try.underlying65 Try.underlying9 hm3 name (.bool true)
      have hfb : Fr [br] w3 w4 := (Fr.drewN w3 1).trans (Fr.but1 hb4 hm3.norow)
      have hs4 : SpAt w4 s bm clock (ensure S name w1.heap.size) := HS3.out.fr hfb (by simp only [List.mem_singleton]; exact fun e => sp_ne_map HS3.out (HMR.out.fr HF3.out (by simpa using HBR.out)) e) (by simp only [List.mem_singleton]; exact fun e => HBR.out e.symm) (fun y hy => by simp only [List.mem_singleton]; exact fun e => g_ne_map HS3.out hy (HMR.out.fr HF3.out (by simpa using HBR.out)) e)
      have ht4 : TxAt w4 t s time 0 br bw := HT3.out.fr hfb (by simp only [List.mem_singleton]; exact HT3.out.ne_map (HMR.out.fr HF3.out (by simpa using HBR.out)))
      have k1 := Ent.c1 (hs4.slot x HX.out.1)
      have HRW := Aside0.mk (hs4.rows x HX.out.1)
      have H4 := Aside0.mk (And.intro hs4 (And.intro ht4 (And.intro hm4 hfb)))
      clear hm3 hm4 hb4 hfb hs4 ht4
      go_wp2_with fail
      refine (clone_calls HRW.out.reads).mono ?_
      rintro e w5 ⟨v', rfl, hr, hb⟩
      have HR := Aside0.mk hr
      have HB := Aside0.mk hb
      clear hr hb hu k3 k1
      go_wp2
      go_returns
      refine ⟨x, HX.out.1, HX.out.2, ?_⟩
      rw [if_pos ⟨HC.out, by have := HV.out; omega⟩]
      have hf5 := Fr.ofBelow HB.out []
      refine ⟨v', rfl, HR.out, H4.out.1.fr hf5 (by simp) (by simp) (fun _ _ => by simp), H4.out.2.1.fr hf5 (by simp), H4.out.2.2.1.fr hf5 (by simp), ?_⟩
      exact ((HF3.out.mono (fun k _ hk => by simp at hk; simp [hk])).trans (H4.out.2.2.2.mono (fun k _ hk => by simp at hk; simp [hk]))).trans (Fr.ofBelow HB.out _)
end Go.Proofs.Ytkjliijcnllohaa.S
