
/- heap: the laws' own functions: same. -/
import Derived.Test.YtlghnldlkbgajaaHLen
namespace Go.Proofs.Ytlghnldlkbgajaa.S
open Go.RowKit Go.Proofs.YtlghnldlkbgajaaW.PrintWords Go.Proofs.YtlghnldlkbgajaaW.PrintLast Go.Proofs.YtlghnldlkbgajaaW.PrintMore
set_option linter.unusedVariables false
set_option linter.unusedSimpArgs false
section
variable {w0 w w' : World} {K : List Nat} {p g gx : Nat} {L : List OW} {h : HH} {M : List OW} {k : RS} {ρ : Int → Int → Prop} {n : Nat}
theorem bq_toList {tx : ByteArray} (h : tx.toList = []) : (tx == (⟨#[]⟩ : ByteArray)) = true := by
  have h2 : tx.data.toList = [] := by first | (simpa using h) | exact h | (rw [← h]; simp) | (rw [ByteArray.toList_eq] at h; exact h)
  have h3 : tx.data = #[] := by
    apply Array.ext'
    exact h2
  show (tx.data == #[]) = true
  rw [h3]; rfl
theorem bq_empty {tx : ByteArray} (h : (tx == (⟨#[]⟩ : ByteArray)) = true) : tx.size = 0 := by
  have h2 : (tx.data == #[]) = true := h
  have := eq_of_beq h2
  simp [ByteArray.size, this]
theorem PrAt.held (H : PrAt w p g gx) : w.cell? ⟨p, 0, none⟩ = some (.pointer (some ⟨g, 0, none⟩)) ∧ w.cell? ⟨p, 1, none⟩ = some (.pointer (some ⟨gx, 0, none⟩)) := ⟨H.c0, H.c1⟩
set_option maxRecDepth 100000 in
set_option maxHeartbeats 8000000 in
theorem same_calls (P : PM w0 w K g gx L h M k) (s : Sim ρ L h M k) (bd : Bnd n L h M k) (hn : n ≤ 1000) (hpr : PrAt w p g gx) :
    Calls Try.prog 26 #[ptr p] w fun e w' => e = .returned (.bool true) ∧ Below w.heap.size w w' := by
  have hmm := @run_makeMap Try.prog
  have HP := Aside0.mk P
  have HS := Aside0.mk s
  have HPR := Aside0.mk hpr
  have hM : M.length ≤ 1000000 := by have := bd.lm; omega
  have HMB := Aside0.mk (And.intro hM (And.intro bd.rl (And.intro bd.ll hn)))
  have hPd := P.fr0 (Fr.drew [] w)
  have HC1 := Aside0.mk hPd.rootsL
  have HC2 := Aside0.mk hPd.rootsR
  have hc3 := hPd.countsL
  rw [s.cnt.1, s.cnt.2, s.has.1, s.has.2, s.sum, s.sum] at hc3
  have HC3 := Aside0.mk hc3
  rw [s.roots.1] at HC1
  have HPd := Aside0.mk hPd
  have HD := Aside0.mk (show (w.drew.cell? ⟨p, 0, none⟩ = some (.pointer (some ⟨g, 0, none⟩)) ∧ w.drew.cell? ⟨p, 1, none⟩ = some (.pointer (some ⟨gx, 0, none⟩))) from hpr.held)
  obtain ⟨nr, hnr⟩ : ∃ nr, nr = k.roots.length := ⟨_, rfl⟩
  rw [← hnr] at HC1 HC2
  have HNR := Aside0.mk hnr
  have hnl : nr ≤ 1000 := by rw [hnr, ← s.roots.1]; have := bd.rl; omega
  unfold ptr
  unfold ptr at HC1 HC2 HC3
  clear P s bd hpr hPd hc3 hM hn hnr
  go_enter Try.func26, Try.ntmps26
  go_wp2_with fail
  refine start_ (n := 24) (S := (fun w' => w'.cell? ⟨p, 0, none⟩ = some (.pointer (some ⟨g, 0, none⟩)) ∧ w'.cell? ⟨p, 1, none⟩ = some (.pointer (some ⟨gx, 0, none⟩)))) (ds := []) #[false, false, false, false, false, false, false, false, false, false, false, false, false, false, false, false, false, false, false, false, false, false, false, false] (by kernel_rfl) rfl rfl HD.out (fun hHeld => ?_)
  refine pure_ (i := 0) (N := some 20) (v := ?_) (a' := ?_) #[true, false, false, false, false, false, false, false, false, false, false, false, false, false, false, false, false, false, false, false, false, false, false, false] rfl rfl (by kernel_rfl) (fun _ _ _ h => h) (Or.inl ⟨by rfl, ?_⟩) ?_ ?_
  rotate_left
  · intro w'
    go_simp
    with_reducible rfl
  rotate_left
  · simp only [Act.put, List.setIfInBounds_toArray, List.set_cons_zero, List.set_cons_succ, i64_w, i32_w]
    rfl
  refine pure_ (i := 1) (N := some 21) (v := ?_) (a' := ?_) #[true, true, false, false, false, false, false, false, false, false, false, false, false, false, false, false, false, false, false, false, false, false, false, false] rfl rfl (by kernel_rfl) (fun _ _ _ h => h) (Or.inl ⟨by rfl, ?_⟩) ?_ ?_
  rotate_left
  · intro w'
    go_simp
    with_reducible rfl
  rotate_left
  · simp only [Act.put, List.setIfInBounds_toArray, List.set_cons_zero, List.set_cons_succ, i64_w, i32_w]
    rfl
  refine pure_ (i := 2) (N := some 22) (v := ?_) (a' := ?_) #[true, true, true, false, false, false, false, false, false, false, false, false, false, false, false, false, false, false, false, false, false, false, false, false] rfl rfl (by kernel_rfl) (fun _ _ _ h => h) (Or.inl ⟨by rfl, ?_⟩) ?_ ?_
  rotate_left
  · intro w'
    go_simp
    with_reducible rfl
  rotate_left
  · simp only [Act.put, List.setIfInBounds_toArray, List.set_cons_zero, List.set_cons_succ, i64_w, i32_w]
    rfl
  refine take_ (i := 3) (N := some 23) (v := ?_) (a' := ?_) #[true, true, true, true, false, false, false, false, false, false, false, false, false, false, false, false, false, false, false, false, false, false, false, false] rfl rfl (by kernel_rfl) (fun _ _ _ h => h) (Or.inl ⟨by rfl, ?_⟩) hHeld ?_ ?_
  rotate_left
  · rintro w' ⟨s0, s1⟩
    go_simp
    with_reducible rfl
  rotate_left
  · simp only [Act.put, List.setIfInBounds_toArray, List.set_cons_zero, List.set_cons_succ, i64_w, i32_w]
    rfl
  refine pure_ (i := 5) (N := some 25) (v := ?_) (a' := ?_) #[true, true, true, true, false, true, false, false, false, false, false, false, false, false, false, false, false, false, false, false, false, false, false, false] rfl rfl (by kernel_rfl) (fun _ _ _ h => h) (Or.inl ⟨by rfl, ?_⟩) ?_ ?_
  rotate_left
  · intro w'
    go_simp
    with_reducible rfl
  rotate_left
  · simp only [Act.put, List.setIfInBounds_toArray, List.set_cons_zero, List.set_cons_succ, i64_w, i32_w]
    rfl
  refine pure_ (i := 6) (N := some 26) (v := ?_) (a' := ?_) #[true, true, true, true, false, true, true, false, false, false, false, false, false, false, false, false, false, false, false, false, false, false, false, false] rfl rfl (by kernel_rfl) (fun _ _ _ h => h) (Or.inl ⟨by rfl, ?_⟩) ?_ ?_
  rotate_left
  · intro w'
    go_simp
    with_reducible rfl
  rotate_left
  · simp only [Act.put, List.setIfInBounds_toArray, List.set_cons_zero, List.set_cons_succ, i64_w, i32_w]
    rfl
  refine pure_ (i := 7) (N := some 27) (v := ?_) (a' := ?_) #[true, true, true, true, false, true, true, true, false, false, false, false, false, false, false, false, false, false, false, false, false, false, false, false] rfl rfl (by kernel_rfl) (fun _ _ _ h => h) (Or.inl ⟨by rfl, ?_⟩) ?_ ?_
  rotate_left
  · intro w'
    go_simp
    with_reducible rfl
  rotate_left
  · simp only [Act.put, List.setIfInBounds_toArray, List.set_cons_zero, List.set_cons_succ, i64_w, i32_w]
    rfl
  refine take_ (i := 8) (N := some 28) (v := ?_) (a' := ?_) #[true, true, true, true, false, true, true, true, true, false, false, false, false, false, false, false, false, false, false, false, false, false, false, false] rfl rfl (by kernel_rfl) (fun _ _ _ h => h) (Or.inl ⟨by rfl, ?_⟩) hHeld ?_ ?_
  rotate_left
  · rintro w' ⟨s0, s1⟩
    go_simp
    with_reducible rfl
  rotate_left
  · simp only [Act.put, List.setIfInBounds_toArray, List.set_cons_zero, List.set_cons_succ, i64_w, i32_w]
    rfl
  refine one_ (i := 4) (N := some 24) #[true, true, true, true, true, true, true, true, true, false, false, false, false, false, false, false, false, false, false, false, false, false, false, false] rfl rfl (by kernel_rfl) (by decide) (fun KK hK => ?_)
  refine goes_ Try.func22 (by kernel_rfl) rfl #[.pointer (some ⟨g, 0, none⟩)] (by rfl) rfl rfl (by simp only [List.map_toArray, List.map_cons, List.map_nil]; rfl) ?_
  refine HC1.out.mono ?_
  rintro e w2 ⟨rfl, rfl⟩
  refine ⟨_, rfl, ?_⟩
  refine hK.out _ _ hHeld (fun hHeld => ?_)
  clear hK KK
  refine norm_ (a' := ?_) ?_ ?_
  rotate_left
  · show Act.put _ (some 24) _ = _
    simp only [Act.put, List.setIfInBounds_toArray, List.set_cons_zero, List.set_cons_succ, i64_w, i32_w]
    rfl
  refine one_ (i := 9) (N := some 29) #[true, true, true, true, true, true, true, true, true, true, false, false, false, false, false, false, false, false, false, false, false, false, false, false] rfl rfl (by kernel_rfl) (by decide) (fun KK hK => ?_)
  refine goes_ Try.func39 (by kernel_rfl) rfl #[.pointer (some ⟨gx, 0, none⟩)] (by rfl) rfl rfl (by simp only [List.map_toArray, List.map_cons, List.map_nil]; rfl) ?_
  refine HC2.out.mono ?_
  rintro e w3 ⟨rfl, rfl⟩
  refine ⟨_, rfl, ?_⟩
  refine hK.out _ _ hHeld (fun hHeld => ?_)
  clear hK KK
  refine norm_ (a' := ?_) ?_ ?_
  rotate_left
  · show Act.put _ (some 29) _ = _
    simp only [Act.put, List.setIfInBounds_toArray, List.set_cons_zero, List.set_cons_succ, i64_w, i32_w]
    rfl
  refine pure_ (i := 10) (N := some 30) (v := ?_) (a' := ?_) #[true, true, true, true, true, true, true, true, true, true, true, false, false, false, false, false, false, false, false, false, false, false, false, false] rfl rfl (by kernel_rfl) (fun _ _ _ h => h) (Or.inl ⟨by rfl, ?_⟩) ?_ ?_
  rotate_left
  · intro w'
    go_simp
    with_reducible rfl
  rotate_left
  · simp only [Act.put, List.setIfInBounds_toArray, List.set_cons_zero, List.set_cons_succ, i64_w, i32_w]
    rfl
  refine pure_ (i := 11) (N := some 31) (v := ?_) (a' := ?_) #[true, true, true, true, true, true, true, true, true, true, true, true, false, false, false, false, false, false, false, false, false, false, false, false] rfl rfl (by kernel_rfl) (fun _ _ _ h => h) (Or.inl ⟨by rfl, ?_⟩) ?_ ?_
  rotate_left
  · intro w'
    go_simp
    with_reducible rfl
  rotate_left
  · simp only [Act.put, List.setIfInBounds_toArray, List.set_cons_zero, List.set_cons_succ, i64_w, i32_w]
    rfl
  refine pure_ (i := 12) (N := some 32) (v := ?_) (a' := ?_) #[true, true, true, true, true, true, true, true, true, true, true, true, true, false, false, false, false, false, false, false, false, false, false, false] rfl rfl (by kernel_rfl) (fun _ _ _ h => h) (Or.inl ⟨by rfl, ?_⟩) ?_ ?_
  rotate_left
  · intro w'
    go_simp
    with_reducible rfl
  rotate_left
  · simp only [Act.put, List.setIfInBounds_toArray, List.set_cons_zero, List.set_cons_succ, i64_w, i32_w]
    rfl
  refine pure_ (i := 13) (N := some 33) (v := ?_) (a' := ?_) #[true, true, true, true, true, true, true, true, true, true, true, true, true, true, false, false, false, false, false, false, false, false, false, false] rfl rfl (by kernel_rfl) (fun _ _ _ h => h) (Or.inl ⟨by rfl, ?_⟩) ?_ ?_
  rotate_left
  · intro w'
    go_simp
    with_reducible rfl
  rotate_left
  · simp only [Act.put, List.setIfInBounds_toArray, List.set_cons_zero, List.set_cons_succ, i64_w, i32_w]
    rfl
  refine pure_ (i := 14) (N := some 34) (v := ?_) (a' := ?_) #[true, true, true, true, true, true, true, true, true, true, true, true, true, true, true, false, false, false, false, false, false, false, false, false] rfl rfl (by kernel_rfl) (fun _ _ _ h => h) (Or.inl ⟨by rfl, ?_⟩) ?_ ?_
  rotate_left
  · intro w'
    go_simp
    with_reducible rfl
  rotate_left
  · simp only [Act.put, List.setIfInBounds_toArray, List.set_cons_zero, List.set_cons_succ, i64_w, i32_w]
    rfl
  refine take_ (i := 15) (N := some 35) (v := ?_) (a' := ?_) #[true, true, true, true, true, true, true, true, true, true, true, true, true, true, true, true, false, false, false, false, false, false, false, false] rfl rfl (by kernel_rfl) (fun _ _ _ h => h) (Or.inl ⟨by rfl, ?_⟩) hHeld ?_ ?_
  rotate_left
  · rintro w' ⟨s0, s1⟩
    go_simp
    with_reducible rfl
  rotate_left
  · simp only [Act.put, List.setIfInBounds_toArray, List.set_cons_zero, List.set_cons_succ, i64_w, i32_w]
    rfl
  refine pure_ (i := 17) (N := some 37) (v := ?_) (a' := ?_) #[true, true, true, true, true, true, true, true, true, true, true, true, true, true, true, true, false, true, false, false, false, false, false, false] rfl rfl (by kernel_rfl) (fun _ _ _ h => h) (Or.inl ⟨by rfl, ?_⟩) ?_ ?_
  rotate_left
  · intro w'
    go_simp
    with_reducible rfl
  rotate_left
  · simp only [Act.put, List.setIfInBounds_toArray, List.set_cons_zero, List.set_cons_succ, i64_w, i32_w]
    rfl
  refine pure_ (i := 18) (N := some 38) (v := ?_) (a' := ?_) #[true, true, true, true, true, true, true, true, true, true, true, true, true, true, true, true, false, true, true, false, false, false, false, false] rfl rfl (by kernel_rfl) (fun _ _ _ h => h) (Or.inl ⟨by rfl, ?_⟩) ?_ ?_
  rotate_left
  · intro w'
    go_simp
    with_reducible rfl
  rotate_left
  · simp only [Act.put, List.setIfInBounds_toArray, List.set_cons_zero, List.set_cons_succ, i64_w, i32_w]
    rfl
  refine pure_ (i := 19) (N := some 39) (v := ?_) (a' := ?_) #[true, true, true, true, true, true, true, true, true, true, true, true, true, true, true, true, false, true, true, true, false, false, false, false] rfl rfl (by kernel_rfl) (fun _ _ _ h => h) (Or.inl ⟨by rfl, ?_⟩) ?_ ?_
  rotate_left
  · intro w'
    go_simp
    with_reducible rfl
  rotate_left
  · simp only [Act.put, List.setIfInBounds_toArray, List.set_cons_zero, List.set_cons_succ, i64_w, i32_w]
    rfl
  refine take_ (i := 20) (N := some 40) (v := ?_) (a' := ?_) #[true, true, true, true, true, true, true, true, true, true, true, true, true, true, true, true, false, true, true, true, true, false, false, false] rfl rfl (by kernel_rfl) (fun _ _ _ h => h) (Or.inl ⟨by rfl, ?_⟩) hHeld ?_ ?_
  rotate_left
  · rintro w' ⟨s0, s1⟩
    go_simp
    with_reducible rfl
  rotate_left
  · simp only [Act.put, List.setIfInBounds_toArray, List.set_cons_zero, List.set_cons_succ, i64_w, i32_w]
    rfl
  refine one_ (i := 16) (N := some 36) #[true, true, true, true, true, true, true, true, true, true, true, true, true, true, true, true, true, true, true, true, true, false, false, false] rfl rfl (by kernel_rfl) (by decide) (fun KK hK => ?_)
  refine goes_ Try.func18 (by kernel_rfl) rfl #[.pointer (some ⟨g, 0, none⟩)] (by rfl) rfl rfl (by simp only [List.map_toArray, List.map_cons, List.map_nil]; rfl) ?_
  refine HC3.out.mono ?_
  rintro e w4 ⟨rfl, hb4⟩
  have hpr4 := (show PrAt w.drew p g gx from HPR.out).new hb4
  refine ⟨_, rfl, ?_⟩
  refine hK.out _ _ hpr4.held (fun hHeld => ?_)
  clear hK KK
  refine norm_ (a' := ?_) ?_ ?_
  rotate_left
  · show Act.put _ (some 36) _ = _
    simp only [Act.put, List.setIfInBounds_toArray, List.set_cons_zero, List.set_cons_succ, i64_w, i32_w]
    rfl
  have HC4 := Aside0.mk ((HPd.out.new hb4).countsR HMB.out.1 HS.out.fineM)
  have HB4 := Aside0.mk hb4
  have HPR4 := Aside0.mk hpr4
  unfold ptr at HC4
  clear hb4 hpr4 HC3 HC1 HC2
  refine one_ (i := 21) (N := some 41) #[true, true, true, true, true, true, true, true, true, true, true, true, true, true, true, true, true, true, true, true, true, true, false, false] rfl rfl (by kernel_rfl) (by decide) (fun KK hK => ?_)
  refine goes_ Try.func19 (by kernel_rfl) rfl #[.pointer (some ⟨gx, 0, none⟩)] (by rfl) rfl rfl (by simp only [List.map_toArray, List.map_cons, List.map_nil]; rfl) ?_
  refine HC4.out.mono ?_
  rintro e w5 ⟨rfl, hb5⟩
  have hpr5 := HPR4.out.new hb5
  refine ⟨_, rfl, ?_⟩
  refine hK.out _ _ hpr5.held (fun hHeld => ?_)
  clear hK KK
  refine norm_ (a' := ?_) ?_ ?_
  rotate_left
  · show Act.put _ (some 41) _ = _
    simp only [Act.put, List.setIfInBounds_toArray, List.set_cons_zero, List.set_cons_succ, i64_w, i32_w]
    rfl
  have HB5 := Aside0.mk (HB4.out.trans (Below.mono hb5 HB4.out.size))
  clear hb5 hpr5 HC4
  refine pure_ (i := 22) (N := some 42) (v := ?_) (a' := ?_) #[true, true, true, true, true, true, true, true, true, true, true, true, true, true, true, true, true, true, true, true, true, true, true, false] rfl rfl (by kernel_rfl) (fun _ _ _ h => h) (Or.inl ⟨by rfl, ?_⟩) ?_ ?_
  rotate_left
  · intro w'
    go_simp
    with_reducible rfl
  rotate_left
  · simp only [Act.put, List.setIfInBounds_toArray, List.set_cons_zero, List.set_cons_succ, i64_w, i32_w]
    rfl
  refine pure_ (i := 23) (N := some 43) (v := ?_) (a' := ?_) #[true, true, true, true, true, true, true, true, true, true, true, true, true, true, true, true, true, true, true, true, true, true, true, true] rfl rfl (by kernel_rfl) (fun _ _ _ h => h) (Or.inl ⟨by rfl, ?_⟩) ?_ ?_
  rotate_left
  · intro w'
    go_simp
    with_reducible rfl
  rotate_left
  · simp only [Act.put, List.setIfInBounds_toArray, List.set_cons_zero, List.set_cons_succ, i64_w, i32_w]
    rfl
  refine done_ (by kernel_rfl) ?_
  have HRD := Aside0.mk HS.out.rd
  have hbA : Below w5.heap.size w5 (w5.alloc (.map #[] 0)) := (Below.refl _ _).alloc (Nat.le_refl _) _
  have hbA2 : Below w5.heap.size w5 ((w5.alloc (.map #[] 0)).alloc (.map #[] 0)) := hbA.alloc hbA.size _
  have hb5 : Below w.heap.size w w5 := ⟨HB5.out.os, HB5.out.tape, HB5.out.output, HB5.out.size, HB5.out.block⟩
  have hbW := hb5.trans (Below.mono hbA2 hb5.size)
  have hsw0 : SW w ((w5.alloc (.map #[] 0)).alloc (.map #[] 0)) none 0 [] none 0 [] [(w5.heap.size, []), (w5.heap.size + 1, [])] :=
    ⟨⟨World.ownsRow_nil _ _ _ _, (fun k hk => by cases hk)⟩, ⟨World.ownsRow_nil _ _ _ _, (fun k hk => by cases hk)⟩, (fun k hk => by cases hk), (fun q hq => by
      have h5 := hb5.size
      simp only [List.mem_cons, List.mem_singleton, List.not_mem_nil, or_false] at hq
      rcases hq with rfl | rfl
      · exact ⟨(MapIs.new w5).fr (Fr.alloc [] _ _) (by simp), h5⟩
      · refine ⟨?_, by show w.heap.size ≤ w5.heap.size + 1; omega⟩
        have := MapIs.new (w5.alloc (.map #[] 0))
        rwa [show (w5.alloc (.map #[] 0)).heap.size = w5.heap.size + 1 by simp] at this), (by simp), hbW⟩
  have HSW0 := Aside0.mk hsw0
  have HNR2 := Aside0.mk ((HP.out.new hbW).rootsR)
  have hA1 : ((w5.alloc (.map #[] 0)).alloc (.map #[] 0)).cell? ⟨p, 1, none⟩ = some (.pointer (some ⟨gx, 0, none⟩)) := (HPR.out.new hbW).c1
  have hA0 : ((w5.alloc (.map #[] 0)).alloc (.map #[] 0)).cell? ⟨p, 0, none⟩ = some (.pointer (some ⟨g, 0, none⟩)) := (HPR.out.new hbW).c0
  rw [← HNR.out] at HNR2
  unfold ptr at HNR2
  clear hbA hbA2 hb5 hbW hsw0 hHeld HPd HD
  go_wp2_with fail
  refine HNR2.out.mono ?_
  rintro e w6 ⟨rfl, rfl⟩
  clear HNR2 hA0 hA1
  obtain ⟨bm, hbm⟩ : ∃ bm, bm = w5.heap.size := ⟨_, rfl⟩
  obtain ⟨bb, hbb⟩ : ∃ bb, bb = w5.heap.size + 1 := ⟨_, rfl⟩
  rw [← hbb, ← hbm] at HSW0
  rw [← hbb, ← hbm]
  generalize (w5.alloc (.map #[] 0)).alloc (.map #[] 0) = wA at *
  clear hbm hbb hmm
  go_wp2_with fail
  go_loopw [5, 6, 51] (fun s5 s6 v51 wr => ∃ (i : Nat) (l m : List Int) (A1 A2 : Option Addr) (c1 c2 : Nat), s5 = .slice A1 l.length c1 ∧ s6 = .slice A2 m.length c2 ∧ v51 = .int .i64 i ∧ Aside0 (i ≤ nr ∧ l.length = i) ∧ Aside0 (All2 (WR ρ) l m) ∧ Aside0 (SW w wr A1 c1 l A2 c2 m [(bm, []), (bb, [])])) (fun s5 s6 v51 wr => nr - (intOf v51).toNat)
  case atStart => exact ⟨0, [], [], none, none, 0, 0, rfl, rfl, rfl, ⟨⟨Nat.zero_le _, rfl⟩⟩, ⟨All2.nil _⟩, HSW0⟩
  case round =>
    obtain ⟨i, l, m, A1, A2, c1, c2, rfl, rfl, rfl, hi, hlm, hsw⟩ := hrel
    clear HSW0
    have hml : Aside0 (m.length = l.length) := ⟨hlm.out.1.symm⟩
    by_cases hlt : i < nr
    · have hltb : decide ((i : Int) < (nr : Int)) = true := decide_eq_true (by omega)
      have hil : (i : Int) < (nr : Int) := by omega
      obtain ⟨u, hu⟩ : ∃ u, u = h.roots.getD i 0 := ⟨_, rfl⟩
      obtain ⟨v, hv⟩ : ∃ v, v = k.roots.getD i 0 := ⟨_, rfl⟩
      have hnk := HNR.out
      have hlk := HRD.out.roots.1
      have huv : WR ρ u v := by rw [hu, hv]; exact HRD.out.roots.2 i (by omega)
      have hPr := (HP.out.new hsw.out.bel).fr0 (Fr.drew [] wr)
      have hr1 := hPr.rootL (by have := HMB.out.2.1; omega) (i : Int)
      rw [if_neg (by omega), Int.toNat_natCast, ← hu] at hr1
      have HC1 := Aside0.mk hr1
      have HDr := Aside0.mk (show (wr.drew.cell? ⟨p, 0, none⟩ = some (.pointer (some ⟨g, 0, none⟩)) ∧ wr.drew.cell? ⟨p, 1, none⟩ = some (.pointer (some ⟨gx, 0, none⟩))) from (HPR.out.new hsw.out.bel).held)
      have hsd := hsw.out.drew
      obtain ⟨A3, c3, w2, hrun1, hs2, hsz2⟩ := hsd.more1 u (by have := hi.out; omega)
      have hPr2 := HP.out.new hs2.bel
      have hr2 := hPr2.rootR (i : Int)
      rw [if_neg (by omega), Int.toNat_natCast, ← hv] at hr2
      have HC2 := Aside0.mk hr2
      obtain ⟨A4, c4, w3, hrun2, hs3, hsz3⟩ := hs2.more2 v (by have := hi.out; have := hml.out; omega)
      have HH1 := Aside0.mk (show ((wr.drew.alloc (.cells #[.int .i64 u] 28)).cell? ⟨p, 0, none⟩ = some (.pointer (some ⟨g, 0, none⟩)) ∧ (wr.drew.alloc (.cells #[.int .i64 u] 28)).cell? ⟨p, 1, none⟩ = some (.pointer (some ⟨gx, 0, none⟩))) from (HPR.out.new (hsd.new ((Below.refl _ _).alloc (Nat.le_refl _) (.cells #[.int .i64 u] 28))).bel).held)
      have HH2 := Aside0.mk (show (w2.cell? ⟨p, 0, none⟩ = some (.pointer (some ⟨g, 0, none⟩)) ∧ w2.cell? ⟨p, 1, none⟩ = some (.pointer (some ⟨gx, 0, none⟩))) from (HPR.out.new hs2.bel).held)
      have HH3 := Aside0.mk (show ((w2.alloc (.cells #[.int .i64 v] 28)).cell? ⟨p, 0, none⟩ = some (.pointer (some ⟨g, 0, none⟩)) ∧ (w2.alloc (.cells #[.int .i64 v] 28)).cell? ⟨p, 1, none⟩ = some (.pointer (some ⟨gx, 0, none⟩))) from (HPR.out.new (hs2.new ((Below.refl _ _).alloc (Nat.le_refl _) (.cells #[.int .i64 v] 28))).bel).held)
      have HH4 := Aside0.mk (show (w3.cell? ⟨p, 0, none⟩ = some (.pointer (some ⟨g, 0, none⟩)) ∧ w3.cell? ⟨p, 1, none⟩ = some (.pointer (some ⟨gx, 0, none⟩))) from (HPR.out.new hs3.bel).held)
      have HS3 := Aside0.mk hs3
      have HUV := Aside0.mk huv
      have HR1 := Aside0.mk (show ∀ ty, (Builtin.append_ #[33, 33] ty #[.slice A1 l.length c1, .slice (some ⟨wr.drew.heap.size, 0, none⟩) 1 1]).run Try.prog (wr.drew.alloc (.cells #[.int .i64 u] 28)) = .ok (.slice A3 (l.length + 1) c3) w2 from hrun1)
      have HR2 := Aside0.mk (show ∀ ty, (Builtin.append_ #[33, 33] ty #[.slice A2 m.length c2, .slice (some ⟨w2.heap.size, 0, none⟩) 1 1]).run Try.prog (w2.alloc (.cells #[.int .i64 v] 28)) = .ok (.slice A4 (m.length + 1) c4) w3 from hrun2)
      unfold ptr at HC1 HC2
      clear hu hv hnk hlk huv hPr hr1 hsd hs2 hsz2 hPr2 hr2 hs3 hsz3 hrun1 hrun2
      go_wp2_with fail
      refine start_ (n := 20) (S := (fun w' => w'.cell? ⟨p, 0, none⟩ = some (.pointer (some ⟨g, 0, none⟩)) ∧ w'.cell? ⟨p, 1, none⟩ = some (.pointer (some ⟨gx, 0, none⟩)))) (ds := []) #[false, false, false, false, false, false, false, false, false, false, false, false, false, false, false, false, false, false, false, false] (by kernel_rfl) rfl rfl HDr.out (fun hHeld => ?_)
      refine pure_ (i := 0) (N := some 54) (v := ?_) (a' := ?_) #[true, false, false, false, false, false, false, false, false, false, false, false, false, false, false, false, false, false, false, false] rfl rfl (by kernel_rfl) (fun _ _ _ h => h) (Or.inl ⟨by rfl, ?_⟩) ?_ ?_
      rotate_left
      · intro w'
        go_simp
        with_reducible rfl
      rotate_left
      · simp only [Act.put, List.setIfInBounds_toArray, List.set_cons_zero, List.set_cons_succ, i64_w, i32_w]
        rfl
      refine pure_ (i := 1) (N := some 55) (v := ?_) (a' := ?_) #[true, true, false, false, false, false, false, false, false, false, false, false, false, false, false, false, false, false, false, false] rfl rfl (by kernel_rfl) (fun _ _ _ h => h) (Or.inl ⟨by rfl, ?_⟩) ?_ ?_
      rotate_left
      · intro w'
        go_simp
        with_reducible rfl
      rotate_left
      · simp only [Act.put, List.setIfInBounds_toArray, List.set_cons_zero, List.set_cons_succ, i64_w, i32_w]
        rfl
      refine pure_ (i := 2) (N := some 56) (v := ?_) (a' := ?_) #[true, true, true, false, false, false, false, false, false, false, false, false, false, false, false, false, false, false, false, false] rfl rfl (by kernel_rfl) (fun _ _ _ h => h) (Or.inl ⟨by rfl, ?_⟩) ?_ ?_
      rotate_left
      · intro w'
        go_simp
        with_reducible rfl
      rotate_left
      · simp only [Act.put, List.setIfInBounds_toArray, List.set_cons_zero, List.set_cons_succ, i64_w, i32_w]
        rfl
      refine pure_ (i := 3) (N := some 57) (v := ?_) (a' := ?_) #[true, true, true, true, false, false, false, false, false, false, false, false, false, false, false, false, false, false, false, false] rfl rfl (by kernel_rfl) (fun _ _ _ h => h) (Or.inl ⟨by rfl, ?_⟩) ?_ ?_
      rotate_left
      · intro w'
        go_simp
        with_reducible rfl
      rotate_left
      · simp only [Act.put, List.setIfInBounds_toArray, List.set_cons_zero, List.set_cons_succ, i64_w, i32_w]
        rfl
      refine take_ (i := 4) (N := some 58) (v := ?_) (a' := ?_) #[true, true, true, true, true, false, false, false, false, false, false, false, false, false, false, false, false, false, false, false] rfl rfl (by kernel_rfl) (fun _ _ _ h => h) (Or.inl ⟨by rfl, ?_⟩) hHeld ?_ ?_
      rotate_left
      · rintro w' ⟨s0, s1⟩
        go_simp
        with_reducible rfl
      rotate_left
      · simp only [Act.put, List.setIfInBounds_toArray, List.set_cons_zero, List.set_cons_succ, i64_w, i32_w]
        rfl
      refine pure_ (i := 5) (N := some 59) (v := ?_) (a' := ?_) #[true, true, true, true, true, true, false, false, false, false, false, false, false, false, false, false, false, false, false, false] rfl rfl (by kernel_rfl) (fun _ _ _ h => h) (Or.inl ⟨by rfl, ?_⟩) ?_ ?_
      rotate_left
      · intro w'
        go_simp
        with_reducible rfl
      rotate_left
      · simp only [Act.put, List.setIfInBounds_toArray, List.set_cons_zero, List.set_cons_succ, i64_w, i32_w]
        rfl
      refine pure_ (i := 9) (N := some 63) (v := ?_) (a' := ?_) #[true, true, true, true, true, true, false, false, false, true, false, false, false, false, false, false, false, false, false, false] rfl rfl (by kernel_rfl) (fun _ _ _ h => h) (Or.inl ⟨by rfl, ?_⟩) ?_ ?_
      rotate_left
      · intro w'
        go_simp
        with_reducible rfl
      rotate_left
      · simp only [Act.put, List.setIfInBounds_toArray, List.set_cons_zero, List.set_cons_succ, i64_w, i32_w]
        rfl
      refine pure_ (i := 10) (N := some 64) (v := ?_) (a' := ?_) #[true, true, true, true, true, true, false, false, false, true, true, false, false, false, false, false, false, false, false, false] rfl rfl (by kernel_rfl) (fun _ _ _ h => h) (Or.inl ⟨by rfl, ?_⟩) ?_ ?_
      rotate_left
      · intro w'
        go_simp
        with_reducible rfl
      rotate_left
      · simp only [Act.put, List.setIfInBounds_toArray, List.set_cons_zero, List.set_cons_succ, i64_w, i32_w]
        rfl
      refine pure_ (i := 11) (N := some 65) (v := ?_) (a' := ?_) #[true, true, true, true, true, true, false, false, false, true, true, true, false, false, false, false, false, false, false, false] rfl rfl (by kernel_rfl) (fun _ _ _ h => h) (Or.inl ⟨by rfl, ?_⟩) ?_ ?_
      rotate_left
      · intro w'
        go_simp
        with_reducible rfl
      rotate_left
      · simp only [Act.put, List.setIfInBounds_toArray, List.set_cons_zero, List.set_cons_succ, i64_w, i32_w]
        rfl
      refine pure_ (i := 12) (N := some 66) (v := ?_) (a' := ?_) #[true, true, true, true, true, true, false, false, false, true, true, true, true, false, false, false, false, false, false, false] rfl rfl (by kernel_rfl) (fun _ _ _ h => h) (Or.inl ⟨by rfl, ?_⟩) ?_ ?_
      rotate_left
      · intro w'
        go_simp
        with_reducible rfl
      rotate_left
      · simp only [Act.put, List.setIfInBounds_toArray, List.set_cons_zero, List.set_cons_succ, i64_w, i32_w]
        rfl
      refine take_ (i := 13) (N := some 67) (v := ?_) (a' := ?_) #[true, true, true, true, true, true, false, false, false, true, true, true, true, true, false, false, false, false, false, false] rfl rfl (by kernel_rfl) (fun _ _ _ h => h) (Or.inl ⟨by rfl, ?_⟩) hHeld ?_ ?_
      rotate_left
      · rintro w' ⟨s0, s1⟩
        go_simp
        with_reducible rfl
      rotate_left
      · simp only [Act.put, List.setIfInBounds_toArray, List.set_cons_zero, List.set_cons_succ, i64_w, i32_w]
        rfl
      refine pure_ (i := 14) (N := some 68) (v := ?_) (a' := ?_) #[true, true, true, true, true, true, false, false, false, true, true, true, true, true, true, false, false, false, false, false] rfl rfl (by kernel_rfl) (fun _ _ _ h => h) (Or.inl ⟨by rfl, ?_⟩) ?_ ?_
      rotate_left
      · intro w'
        go_simp
        with_reducible rfl
      rotate_left
      · simp only [Act.put, List.setIfInBounds_toArray, List.set_cons_zero, List.set_cons_succ, i64_w, i32_w]
        rfl
      refine one_ (i := 6) (N := some 60) #[true, true, true, true, true, true, true, false, false, true, true, true, true, true, true, false, false, false, false, false] rfl rfl (by kernel_rfl) (by decide) (fun KK hK => ?_)
      refine goes_ Try.func11 (by kernel_rfl) rfl #[.pointer (some ⟨g, 0, none⟩), .int .i64 (i : Int)] (by rfl) rfl rfl (by simp only [List.map_toArray, List.map_cons, List.map_nil]; rfl) ?_
      refine HC1.out.mono ?_
      rintro e w9 ⟨rfl, rfl⟩
      refine ⟨_, rfl, ?_⟩
      refine hK.out _ _ hHeld (fun hHeld => ?_)
      clear hK KK
      refine norm_ (a' := ?_) ?_ ?_
      rotate_left
      · show Act.put _ (some 60) _ = _
        simp only [Act.put, List.setIfInBounds_toArray, List.set_cons_zero, List.set_cons_succ, i64_w, i32_w]
        rfl
      clear HC1
      refine one_ (i := 7) (N := some 61) #[true, true, true, true, true, true, true, true, false, true, true, true, true, true, true, false, false, false, false, false] rfl rfl (by kernel_rfl) (by decide) (fun KK hK => ?_)
      refine value_ (v := .slice (some ⟨wr.drew.heap.size, 0, none⟩) 1 1) (w1 := wr.drew.alloc (.cells #[.int .i64 u] 28)) (by rfl) rfl (by first | (go_simp; done) | (go_simp; rfl)) ?_
      refine hK.out _ _ HH1.out (fun hHeld => ?_)
      clear hK KK
      refine norm_ (a' := ?_) ?_ ?_
      rotate_left
      · show Act.put _ (some 61) _ = _
        simp only [Act.put, List.setIfInBounds_toArray, List.set_cons_zero, List.set_cons_succ, i64_w, i32_w]
        rfl
      refine one_ (i := 8) (N := some 62) #[true, true, true, true, true, true, true, true, true, true, true, true, true, true, true, false, false, false, false, false] rfl rfl (by kernel_rfl) (by decide) (fun KK hK => ?_)
      rw [if_pos (by rfl)]
      refine wp_append_words (.tmp 54) (.tmp 61) 33 rfl _ _ _ _ rfl rfl HR1.out ?_
      refine hK.out _ _ HH2.out (fun hHeld => ?_)
      clear hK KK
      refine norm_ (a' := ?_) ?_ ?_
      rotate_left
      · show Act.put _ (some 62) _ = _
        simp only [Act.put, List.setIfInBounds_toArray, List.set_cons_zero, List.set_cons_succ, i64_w, i32_w]
        rfl
      refine one_ (i := 15) (N := some 69) #[true, true, true, true, true, true, true, true, true, true, true, true, true, true, true, true, false, false, false, false] rfl rfl (by kernel_rfl) (by decide) (fun KK hK => ?_)
      refine goes_ Try.func40 (by kernel_rfl) rfl #[.pointer (some ⟨gx, 0, none⟩), .int .i64 (i : Int)] (by rfl) rfl rfl (by simp only [List.map_toArray, List.map_cons, List.map_nil]; rfl) ?_
      refine HC2.out.mono ?_
      rintro e w2 ⟨rfl, rfl⟩
      refine ⟨_, rfl, ?_⟩
      refine hK.out _ _ hHeld (fun hHeld => ?_)
      clear hK KK
      refine norm_ (a' := ?_) ?_ ?_
      rotate_left
      · show Act.put _ (some 69) _ = _
        simp only [Act.put, List.setIfInBounds_toArray, List.set_cons_zero, List.set_cons_succ, i64_w, i32_w]
        rfl
      clear HC2
      refine one_ (i := 16) (N := some 70) #[true, true, true, true, true, true, true, true, true, true, true, true, true, true, true, true, true, false, false, false] rfl rfl (by kernel_rfl) (by decide) (fun KK hK => ?_)
      refine value_ (v := .slice (some ⟨w2.heap.size, 0, none⟩) 1 1) (w1 := w2.alloc (.cells #[.int .i64 v] 28)) (by rfl) rfl (by first | (go_simp; done) | (go_simp; rfl)) ?_
      refine hK.out _ _ HH3.out (fun hHeld => ?_)
      clear hK KK
      refine norm_ (a' := ?_) ?_ ?_
      rotate_left
      · show Act.put _ (some 70) _ = _
        simp only [Act.put, List.setIfInBounds_toArray, List.set_cons_zero, List.set_cons_succ, i64_w, i32_w]
        rfl
      refine one_ (i := 17) (N := some 71) #[true, true, true, true, true, true, true, true, true, true, true, true, true, true, true, true, true, true, false, false] rfl rfl (by kernel_rfl) (by decide) (fun KK hK => ?_)
      rw [if_pos (by rfl)]
      refine wp_append_words (.tmp 63) (.tmp 70) 33 rfl _ _ _ _ rfl rfl HR2.out ?_
      refine hK.out _ _ HH4.out (fun hHeld => ?_)
      clear hK KK
      refine norm_ (a' := ?_) ?_ ?_
      rotate_left
      · show Act.put _ (some 71) _ = _
        simp only [Act.put, List.setIfInBounds_toArray, List.set_cons_zero, List.set_cons_succ, i64_w, i32_w]
        rfl
      refine pure_ (i := 18) (N := some 5) (v := ?_) (a' := ?_) #[true, true, true, true, true, true, true, true, true, true, true, true, true, true, true, true, true, true, true, false] rfl rfl (by kernel_rfl) (fun _ _ _ h => h) (Or.inl ⟨by rfl, ?_⟩) ?_ ?_
      rotate_left
      · intro w'
        go_simp
        with_reducible rfl
      rotate_left
      · simp only [Act.put, List.setIfInBounds_toArray, List.set_cons_zero, List.set_cons_succ, i64_w, i32_w]
        rfl
      refine pure_ (i := 19) (N := some 6) (v := ?_) (a' := ?_) #[true, true, true, true, true, true, true, true, true, true, true, true, true, true, true, true, true, true, true, true] rfl rfl (by kernel_rfl) (fun _ _ _ h => h) (Or.inl ⟨by rfl, ?_⟩) ?_ ?_
      rotate_left
      · intro w'
        go_simp
        with_reducible rfl
      rotate_left
      · simp only [Act.put, List.setIfInBounds_toArray, List.set_cons_zero, List.set_cons_succ, i64_w, i32_w]
        rfl
      refine done_ (by kernel_rfl) ?_
      go_wp2_with fail
      go_roundw
      case rel => exact ⟨i + 1, l ++ [u], m ++ [v], A3, A4, c3, c4, by rw [List.length_append]; rfl, by rw [List.length_append]; rfl, by go_num, ⟨by have := hi.out; exact ⟨hlt, by rw [List.length_append, List.length_singleton]; omega⟩⟩, ⟨hlm.out.app ⟨rfl, fun j hj => by
        have : j = 0 := by simpa using hj
        subst this; exact HUV.out⟩⟩, HS3⟩
      case measure => simp [intOf]; omega
    · have hltb : decide ((i : Int) < (nr : Int)) = false := decide_eq_false (by omega)
      have hil : ¬ (i : Int) < (nr : Int) := by omega
      have HL0 := Aside0.mk (show l.length = nr by have := hi.out; omega)
      have HLM0 := Aside0.mk (And.intro hlm.out hsw.out)
      go_wp2_with fail
      go_loopw [5, 6, 8] (fun s5 s6 v8 wr => ∃ (i : Nat) (l m : List Int) (Z : List (Int × Int)) (A1 A2 : Option Addr) (c1 c2 : Nat), s5 = .slice A1 l.length c1 ∧ s6 = .slice A2 m.length c2 ∧ v8 = .int .i64 i ∧ Aside0 (i ≤ l.length ∧ l.length ≤ nr + 1000 * Z.length) ∧ Aside0 (All2 (WR ρ) l m) ∧ Aside0 (Met ρ Z) ∧ Aside0 (SW w wr A1 c1 l A2 c2 m [(bm, fwd Z), (bb, bwd Z)])) (fun s5 s6 v8 wr => (lenV s5 - (intOf v8).toNat) + 1002 * (L.length - mapLen wr bm))
      case atStart => exact ⟨0, l, m, [], A1, A2, c1, c2, rfl, rfl, rfl, ⟨⟨Nat.zero_le _, by have := HL0.out; simp; omega⟩⟩, ⟨HLM0.out.1⟩, ⟨Met.nil _⟩, ⟨HLM0.out.2⟩⟩
      case round =>
        clear HL0 HLM0 hi hlm hsw hml hlt hltb hil
        obtain ⟨i, l, m, Z, A1, A2, c1, c2, rfl, rfl, rfl, hi, hlm, hmt, hsw⟩ := hrel
        have HLB := Aside0.mk (show l.length ≤ 3000000 by have h1 := hi.out; have h2 := hmt.out.len HRD.out; have := HMB.out; omega)
        have hml : Aside0 (m.length = l.length) := ⟨hlm.out.1.symm⟩
        by_cases hlt : i < l.length
        · have hltb : decide ((i : Int) < (l.length : Int)) = true := decide_eq_true (by omega)
          have hil : (i : Int) < (l.length : Int) := by omega
          have him : (i : Int) < (m.length : Int) := by have := hml.out; omega
          have HAB := Aside0.mk (hlm.out.2 i hlt)
          obtain ⟨q1, rfl, hq1⟩ := hsw.out.drew.at1 hlt
          obtain ⟨q2, rfl, hq2⟩ := hsw.out.drew.at2 (i := i) (by have := hml.out; omega)
          generalize l.getD i 0 = a at *
          generalize m.getD i 0 = b at *
          have HI := Aside0.mk (show (wr.drew.cell? ⟨q1, i, none⟩ = some (.int .i64 a) ∧ wr.drew.cell? ⟨q2, i, none⟩ = some (.int .i64 b)) from ⟨hq1, hq2⟩)
          have HI2 := Aside0.mk (show (wr.drew.drew.cell? ⟨p, 0, none⟩ = some (.pointer (some ⟨g, 0, none⟩)) ∧ wr.drew.drew.cell? ⟨p, 1, none⟩ = some (.pointer (some ⟨gx, 0, none⟩))) from (HPR.out.new hsw.out.drew.drew.bel).held)
          have HW1 := Aside0.mk hsw.out.drew.drew
          have hc1 := (HP.out.new hsw.out.drew.drew.bel).kindD HRD.out.pl a
          have hke := HRD.out.kindEq HAB.out
          have hle := HRD.out.lenEq HAB.out
          have hte := HRD.out.textEq HAB.out
          have hkz := HRD.out.kindZero HAB.out
          have HLX0 := Aside0.mk (fun y (hy : fnd M b = some y) => show lenF M b = (y.o.fs.length : Int) + y.o.text.size by unfold lenF; rw [hy])
          have HTX0 := Aside0.mk (fun y (hy : fnd M b = some y) => show textF M b = y.o.text by unfold textF; rw [hy])
          obtain ⟨kk, hkk⟩ : ∃ kk, kindF M b = kk := ⟨_, rfl⟩
          obtain ⟨ln, hln⟩ : ∃ ln, lenF M b = ln := ⟨_, rfl⟩
          obtain ⟨tx, htx⟩ : ∃ tx, textF M b = tx := ⟨_, rfl⟩
          rw [hke, hkk] at hc1
          have HKK := Aside0.mk hkk
          have HLN := Aside0.mk (hle.trans hln)
          have HLM := Aside0.mk hln
          have HTX := Aside0.mk (hte.trans htx)
          have HTM := Aside0.mk htx
          have HC1 := Aside0.mk hc1
          have HKZ := Aside0.mk hkz
          have HMP := Aside0.mk (And.intro (hsw.out.mp (bm, fwd Z) (by simp)).1 trivial)
          unfold ptr at HC1
          clear hq1 hq2 hc1 hke hle hte hkk hln htx hkz
          go_wp2_with fail
          refine start_ (n := 10) (S := (fun w' => w'.cell? ⟨q1, i, none⟩ = some (.int .i64 a) ∧ w'.cell? ⟨q2, i, none⟩ = some (.int .i64 b))) (ds := []) #[false, false, false, false, false, false, false, false, false, false] (by kernel_rfl) rfl rfl HI.out (fun hHeld => ?_)
          refine pure_ (i := 0) (N := some 79) (v := ?_) (a' := ?_) #[true, false, false, false, false, false, false, false, false, false] rfl rfl (by kernel_rfl) (fun _ _ _ h => h) (Or.inl ⟨by rfl, ?_⟩) ?_ ?_
          rotate_left
          · intro w'
            go_simp
            with_reducible rfl
          rotate_left
          · simp only [Act.put, List.setIfInBounds_toArray, List.set_cons_zero, List.set_cons_succ, i64_w, i32_w]
            rfl
          refine pure_ (i := 1) (N := some 80) (v := ?_) (a' := ?_) #[true, true, false, false, false, false, false, false, false, false] rfl rfl (by kernel_rfl) (fun _ _ _ h => h) (Or.inl ⟨by rfl, ?_⟩) ?_ ?_
          rotate_left
          · intro w'
            go_simp
            with_reducible rfl
          rotate_left
          · simp only [Act.put, List.setIfInBounds_toArray, List.set_cons_zero, List.set_cons_succ, i64_w, i32_w]
            rfl
          refine pure_ (i := 2) (N := some 81) (v := ?_) (a' := ?_) #[true, true, true, false, false, false, false, false, false, false] rfl rfl (by kernel_rfl) (fun _ _ _ h => h) (Or.inl ⟨by rfl, ?_⟩) ?_ ?_
          rotate_left
          · intro w'
            go_simp
            with_reducible rfl
          rotate_left
          · simp only [Act.put, List.setIfInBounds_toArray, List.set_cons_zero, List.set_cons_succ, i64_w, i32_w]
            rfl
          refine take_ (i := 3) (N := some 82) (v := ?_) (a' := ?_) #[true, true, true, true, false, false, false, false, false, false] rfl rfl (by kernel_rfl) (fun _ _ _ h => h) (Or.inl ⟨by rfl, ?_⟩) hHeld ?_ ?_
          rotate_left
          · rintro w' ⟨s0, s1⟩
            go_simp
            with_reducible rfl
          rotate_left
          · simp only [Act.put, List.setIfInBounds_toArray, List.set_cons_zero, List.set_cons_succ, i64_w, i32_w]
            rfl
          refine pure_ (i := 4) (N := some 83) (v := ?_) (a' := ?_) #[true, true, true, true, true, false, false, false, false, false] rfl rfl (by kernel_rfl) (fun _ _ _ h => h) (Or.inl ⟨by rfl, ?_⟩) ?_ ?_
          rotate_left
          · intro w'
            go_simp
            with_reducible rfl
          rotate_left
          · simp only [Act.put, List.setIfInBounds_toArray, List.set_cons_zero, List.set_cons_succ, i64_w, i32_w]
            rfl
          refine pure_ (i := 5) (N := some 84) (v := ?_) (a' := ?_) #[true, true, true, true, true, true, false, false, false, false] rfl rfl (by kernel_rfl) (fun _ _ _ h => h) (Or.inl ⟨by rfl, ?_⟩) ?_ ?_
          rotate_left
          · intro w'
            go_simp
            with_reducible rfl
          rotate_left
          · simp only [Act.put, List.setIfInBounds_toArray, List.set_cons_zero, List.set_cons_succ, i64_w, i32_w]
            rfl
          refine pure_ (i := 6) (N := some 85) (v := ?_) (a' := ?_) #[true, true, true, true, true, true, true, false, false, false] rfl rfl (by kernel_rfl) (fun _ _ _ h => h) (Or.inl ⟨by rfl, ?_⟩) ?_ ?_
          rotate_left
          · intro w'
            go_simp
            with_reducible rfl
          rotate_left
          · simp only [Act.put, List.setIfInBounds_toArray, List.set_cons_zero, List.set_cons_succ, i64_w, i32_w]
            rfl
          refine take_ (i := 7) (N := some 86) (v := ?_) (a' := ?_) #[true, true, true, true, true, true, true, true, false, false] rfl rfl (by kernel_rfl) (fun _ _ _ h => h) (Or.inl ⟨by rfl, ?_⟩) hHeld ?_ ?_
          rotate_left
          · rintro w' ⟨s0, s1⟩
            go_simp
            with_reducible rfl
          rotate_left
          · simp only [Act.put, List.setIfInBounds_toArray, List.set_cons_zero, List.set_cons_succ, i64_w, i32_w]
            rfl
          refine pure_ (i := 8) (N := some 9) (v := ?_) (a' := ?_) #[true, true, true, true, true, true, true, true, true, false] rfl rfl (by kernel_rfl) (fun _ _ _ h => h) (Or.inl ⟨by rfl, ?_⟩) ?_ ?_
          rotate_left
          · intro w'
            go_simp
            with_reducible rfl
          rotate_left
          · simp only [Act.put, List.setIfInBounds_toArray, List.set_cons_zero, List.set_cons_succ, i64_w, i32_w]
            rfl
          refine pure_ (i := 9) (N := some 10) (v := ?_) (a' := ?_) #[true, true, true, true, true, true, true, true, true, true] rfl rfl (by kernel_rfl) (fun _ _ _ h => h) (Or.inl ⟨by rfl, ?_⟩) ?_ ?_
          rotate_left
          · intro w'
            go_simp
            with_reducible rfl
          rotate_left
          · simp only [Act.put, List.setIfInBounds_toArray, List.set_cons_zero, List.set_cons_succ, i64_w, i32_w]
            rfl
          refine done_ (by kernel_rfl) ?_
          go_wp2_with fail
          refine start_ (n := 43) (S := (fun w' => w'.cell? ⟨p, 0, none⟩ = some (.pointer (some ⟨g, 0, none⟩)) ∧ w'.cell? ⟨p, 1, none⟩ = some (.pointer (some ⟨gx, 0, none⟩)))) (ds := []) #[false, false, false, false, false, false, false, false, false, false, false, false, false, false, false, false, false, false, false, false, false, false, false, false, false, false, false, false, false, false, false, false, false, false, false, false, false, false, false, false, false, false, false] (by kernel_rfl) rfl rfl HI2.out (fun hHeld => ?_)
          refine pure_ (i := 0) (N := some 87) (v := ?_) (a' := ?_) #[true, false, false, false, false, false, false, false, false, false, false, false, false, false, false, false, false, false, false, false, false, false, false, false, false, false, false, false, false, false, false, false, false, false, false, false, false, false, false, false, false, false, false] rfl rfl (by kernel_rfl) (fun _ _ _ h => h) (Or.inl ⟨by rfl, ?_⟩) ?_ ?_
          rotate_left
          · intro w'
            go_simp
            with_reducible rfl
          rotate_left
          · simp only [Act.put, List.setIfInBounds_toArray, List.set_cons_zero, List.set_cons_succ, i64_w, i32_w]
            rfl
          refine pure_ (i := 1) (N := some 88) (v := ?_) (a' := ?_) #[true, true, false, false, false, false, false, false, false, false, false, false, false, false, false, false, false, false, false, false, false, false, false, false, false, false, false, false, false, false, false, false, false, false, false, false, false, false, false, false, false, false, false] rfl rfl (by kernel_rfl) (fun _ _ _ h => h) (Or.inl ⟨by rfl, ?_⟩) ?_ ?_
          rotate_left
          · intro w'
            go_simp
            with_reducible rfl
          rotate_left
          · simp only [Act.put, List.setIfInBounds_toArray, List.set_cons_zero, List.set_cons_succ, i64_w, i32_w]
            rfl
          refine pure_ (i := 2) (N := some 89) (v := ?_) (a' := ?_) #[true, true, true, false, false, false, false, false, false, false, false, false, false, false, false, false, false, false, false, false, false, false, false, false, false, false, false, false, false, false, false, false, false, false, false, false, false, false, false, false, false, false, false] rfl rfl (by kernel_rfl) (fun _ _ _ h => h) (Or.inl ⟨by rfl, ?_⟩) ?_ ?_
          rotate_left
          · intro w'
            go_simp
            with_reducible rfl
          rotate_left
          · simp only [Act.put, List.setIfInBounds_toArray, List.set_cons_zero, List.set_cons_succ, i64_w, i32_w]
            rfl
          refine take_ (i := 3) (N := some 90) (v := ?_) (a' := ?_) #[true, true, true, true, false, false, false, false, false, false, false, false, false, false, false, false, false, false, false, false, false, false, false, false, false, false, false, false, false, false, false, false, false, false, false, false, false, false, false, false, false, false, false] rfl rfl (by kernel_rfl) (fun _ _ _ h => h) (Or.inl ⟨by rfl, ?_⟩) hHeld ?_ ?_
          rotate_left
          · rintro w' ⟨s0, s1⟩
            go_simp
            with_reducible rfl
          rotate_left
          · simp only [Act.put, List.setIfInBounds_toArray, List.set_cons_zero, List.set_cons_succ, i64_w, i32_w]
            rfl
          refine pure_ (i := 4) (N := some 91) (v := ?_) (a' := ?_) #[true, true, true, true, true, false, false, false, false, false, false, false, false, false, false, false, false, false, false, false, false, false, false, false, false, false, false, false, false, false, false, false, false, false, false, false, false, false, false, false, false, false, false] rfl rfl (by kernel_rfl) (fun _ _ _ h => h) (Or.inl ⟨by rfl, ?_⟩) ?_ ?_
          rotate_left
          · intro w'
            go_simp
            with_reducible rfl
          rotate_left
          · simp only [Act.put, List.setIfInBounds_toArray, List.set_cons_zero, List.set_cons_succ, i64_w, i32_w]
            rfl
          refine pure_ (i := 6) (N := some 93) (v := ?_) (a' := ?_) #[true, true, true, true, true, false, true, false, false, false, false, false, false, false, false, false, false, false, false, false, false, false, false, false, false, false, false, false, false, false, false, false, false, false, false, false, false, false, false, false, false, false, false] rfl rfl (by kernel_rfl) (fun _ _ _ h => h) (Or.inl ⟨by rfl, ?_⟩) ?_ ?_
          rotate_left
          · intro w'
            go_simp
            with_reducible rfl
          rotate_left
          · simp only [Act.put, List.setIfInBounds_toArray, List.set_cons_zero, List.set_cons_succ, i64_w, i32_w]
            rfl
          refine pure_ (i := 7) (N := some 94) (v := ?_) (a' := ?_) #[true, true, true, true, true, false, true, true, false, false, false, false, false, false, false, false, false, false, false, false, false, false, false, false, false, false, false, false, false, false, false, false, false, false, false, false, false, false, false, false, false, false, false] rfl rfl (by kernel_rfl) (fun _ _ _ h => h) (Or.inl ⟨by rfl, ?_⟩) ?_ ?_
          rotate_left
          · intro w'
            go_simp
            with_reducible rfl
          rotate_left
          · simp only [Act.put, List.setIfInBounds_toArray, List.set_cons_zero, List.set_cons_succ, i64_w, i32_w]
            rfl
          refine pure_ (i := 8) (N := some 95) (v := ?_) (a' := ?_) #[true, true, true, true, true, false, true, true, true, false, false, false, false, false, false, false, false, false, false, false, false, false, false, false, false, false, false, false, false, false, false, false, false, false, false, false, false, false, false, false, false, false, false] rfl rfl (by kernel_rfl) (fun _ _ _ h => h) (Or.inl ⟨by rfl, ?_⟩) ?_ ?_
          rotate_left
          · intro w'
            go_simp
            with_reducible rfl
          rotate_left
          · simp only [Act.put, List.setIfInBounds_toArray, List.set_cons_zero, List.set_cons_succ, i64_w, i32_w]
            rfl
          refine take_ (i := 9) (N := some 96) (v := ?_) (a' := ?_) #[true, true, true, true, true, false, true, true, true, true, false, false, false, false, false, false, false, false, false, false, false, false, false, false, false, false, false, false, false, false, false, false, false, false, false, false, false, false, false, false, false, false, false] rfl rfl (by kernel_rfl) (fun _ _ _ h => h) (Or.inl ⟨by rfl, ?_⟩) hHeld ?_ ?_
          rotate_left
          · rintro w' ⟨s0, s1⟩
            go_simp
            with_reducible rfl
          rotate_left
          · simp only [Act.put, List.setIfInBounds_toArray, List.set_cons_zero, List.set_cons_succ, i64_w, i32_w]
            rfl
          refine pure_ (i := 10) (N := some 97) (v := ?_) (a' := ?_) #[true, true, true, true, true, false, true, true, true, true, true, false, false, false, false, false, false, false, false, false, false, false, false, false, false, false, false, false, false, false, false, false, false, false, false, false, false, false, false, false, false, false, false] rfl rfl (by kernel_rfl) (fun _ _ _ h => h) (Or.inl ⟨by rfl, ?_⟩) ?_ ?_
          rotate_left
          · intro w'
            go_simp
            with_reducible rfl
          rotate_left
          · simp only [Act.put, List.setIfInBounds_toArray, List.set_cons_zero, List.set_cons_succ, i64_w, i32_w]
            rfl
          refine one_ (i := 5) (N := some 92) #[true, true, true, true, true, true, true, true, true, true, true, false, false, false, false, false, false, false, false, false, false, false, false, false, false, false, false, false, false, false, false, false, false, false, false, false, false, false, false, false, false, false, false] rfl rfl (by kernel_rfl) (by decide) (fun KK hK => ?_)
          refine goes_ Try.func13 (by kernel_rfl) rfl #[.pointer (some ⟨g, 0, none⟩), .int .i64 a] (by rfl) rfl rfl (by simp only [List.map_toArray, List.map_cons, List.map_nil]; rfl) ?_
          refine HC1.out.mono ?_
          rintro e y1 ⟨rfl, hb1⟩
          have hs1 := HW1.out.new hb1
          refine ⟨_, rfl, ?_⟩
          refine hK.out _ _ (HPR.out.new hs1.bel).held (fun hHeld => ?_)
          clear hK KK
          refine norm_ (a' := ?_) ?_ ?_
          rotate_left
          · show Act.put _ (some 92) _ = _
            simp only [Act.put, List.setIfInBounds_toArray, List.set_cons_zero, List.set_cons_succ, i64_w, i32_w]
            rfl
          have HW2 := Aside0.mk hs1
          have HC2 := Aside0.mk ((HP.out.new hs1.bel).kindR HMB.out.1 b)
          rw [HKK.out] at HC2
          unfold ptr at HC2
          clear hb1 hs1 HC1 HW1
          refine one_ (i := 11) (N := some 98) #[true, true, true, true, true, true, true, true, true, true, true, true, false, false, false, false, false, false, false, false, false, false, false, false, false, false, false, false, false, false, false, false, false, false, false, false, false, false, false, false, false, false, false] rfl rfl (by kernel_rfl) (by decide) (fun KK hK => ?_)
          refine goes_ Try.func41 (by kernel_rfl) rfl #[.pointer (some ⟨gx, 0, none⟩), .int .i64 b] (by rfl) rfl rfl (by simp only [List.map_toArray, List.map_cons, List.map_nil]; rfl) ?_
          refine HC2.out.mono ?_
          rintro e y2 ⟨rfl, rfl⟩
          refine ⟨_, rfl, ?_⟩
          refine hK.out _ _ hHeld (fun hHeld => ?_)
          clear hK KK
          refine norm_ (a' := ?_) ?_ ?_
          rotate_left
          · show Act.put _ (some 98) _ = _
            simp only [Act.put, List.setIfInBounds_toArray, List.set_cons_zero, List.set_cons_succ, i64_w, i32_w]
            rfl
          clear HC2
          have hc3 := (HP.out.new HW2.out.bel).lenD HRD.out.pl HRD.out.fine a
          rw [HLN.out] at hc3
          have HC3 := Aside0.mk hc3
          unfold ptr at HC3
          clear hc3
          refine pure_ (i := 12) (N := some 99) (v := ?_) (a' := ?_) #[true, true, true, true, true, true, true, true, true, true, true, true, true, false, false, false, false, false, false, false, false, false, false, false, false, false, false, false, false, false, false, false, false, false, false, false, false, false, false, false, false, false, false] rfl rfl (by kernel_rfl) (fun _ _ _ h => h) (Or.inl ⟨by rfl, ?_⟩) ?_ ?_
          rotate_left
          · intro w'
            go_simp
            with_reducible rfl
          rotate_left
          · simp only [Act.put, List.setIfInBounds_toArray, List.set_cons_zero, List.set_cons_succ, i64_w, i32_w]
            rfl
          refine pure_ (i := 13) (N := some 100) (v := ?_) (a' := ?_) #[true, true, true, true, true, true, true, true, true, true, true, true, true, true, false, false, false, false, false, false, false, false, false, false, false, false, false, false, false, false, false, false, false, false, false, false, false, false, false, false, false, false, false] rfl rfl (by kernel_rfl) (fun _ _ _ h => h) (Or.inl ⟨by rfl, ?_⟩) ?_ ?_
          rotate_left
          · intro w'
            go_simp
            with_reducible rfl
          rotate_left
          · simp only [Act.put, List.setIfInBounds_toArray, List.set_cons_zero, List.set_cons_succ, i64_w, i32_w]
            rfl
          refine pure_ (i := 14) (N := some 101) (v := ?_) (a' := ?_) #[true, true, true, true, true, true, true, true, true, true, true, true, true, true, true, false, false, false, false, false, false, false, false, false, false, false, false, false, false, false, false, false, false, false, false, false, false, false, false, false, false, false, false] rfl rfl (by kernel_rfl) (fun _ _ _ h => h) (Or.inl ⟨by rfl, ?_⟩) ?_ ?_
          rotate_left
          · intro w'
            go_simp
            with_reducible rfl
          rotate_left
          · simp only [Act.put, List.setIfInBounds_toArray, List.set_cons_zero, List.set_cons_succ, i64_w, i32_w]
            rfl
          refine pure_ (i := 15) (N := some 102) (v := ?_) (a' := ?_) #[true, true, true, true, true, true, true, true, true, true, true, true, true, true, true, true, false, false, false, false, false, false, false, false, false, false, false, false, false, false, false, false, false, false, false, false, false, false, false, false, false, false, false] rfl rfl (by kernel_rfl) (fun _ _ _ h => h) (Or.inl ⟨by rfl, ?_⟩) ?_ ?_
          rotate_left
          · intro w'
            go_simp
            with_reducible rfl
          rotate_left
          · simp only [Act.put, List.setIfInBounds_toArray, List.set_cons_zero, List.set_cons_succ, i64_w, i32_w]
            rfl
          refine pure_ (i := 16) (N := some 103) (v := ?_) (a' := ?_) #[true, true, true, true, true, true, true, true, true, true, true, true, true, true, true, true, true, false, false, false, false, false, false, false, false, false, false, false, false, false, false, false, false, false, false, false, false, false, false, false, false, false, false] rfl rfl (by kernel_rfl) (fun _ _ _ h => h) (Or.inl ⟨by rfl, ?_⟩) ?_ ?_
          rotate_left
          · intro w'
            go_simp
            with_reducible rfl
          rotate_left
          · simp only [Act.put, List.setIfInBounds_toArray, List.set_cons_zero, List.set_cons_succ, i64_w, i32_w]
            rfl
          refine take_ (i := 17) (N := some 104) (v := ?_) (a' := ?_) #[true, true, true, true, true, true, true, true, true, true, true, true, true, true, true, true, true, true, false, false, false, false, false, false, false, false, false, false, false, false, false, false, false, false, false, false, false, false, false, false, false, false, false] rfl rfl (by kernel_rfl) (fun _ _ _ h => h) (Or.inl ⟨by rfl, ?_⟩) hHeld ?_ ?_
          rotate_left
          · rintro w' ⟨s0, s1⟩
            go_simp
            with_reducible rfl
          rotate_left
          · simp only [Act.put, List.setIfInBounds_toArray, List.set_cons_zero, List.set_cons_succ, i64_w, i32_w]
            rfl
          refine pure_ (i := 18) (N := some 105) (v := ?_) (a' := ?_) #[true, true, true, true, true, true, true, true, true, true, true, true, true, true, true, true, true, true, true, false, false, false, false, false, false, false, false, false, false, false, false, false, false, false, false, false, false, false, false, false, false, false, false] rfl rfl (by kernel_rfl) (fun _ _ _ h => h) (Or.inl ⟨by rfl, ?_⟩) ?_ ?_
          rotate_left
          · intro w'
            go_simp
            with_reducible rfl
          rotate_left
          · simp only [Act.put, List.setIfInBounds_toArray, List.set_cons_zero, List.set_cons_succ, i64_w, i32_w]
            rfl
          refine pure_ (i := 20) (N := some 107) (v := ?_) (a' := ?_) #[true, true, true, true, true, true, true, true, true, true, true, true, true, true, true, true, true, true, true, false, true, false, false, false, false, false, false, false, false, false, false, false, false, false, false, false, false, false, false, false, false, false, false] rfl rfl (by kernel_rfl) (fun _ _ _ h => h) (Or.inl ⟨by rfl, ?_⟩) ?_ ?_
          rotate_left
          · intro w'
            go_simp
            with_reducible rfl
          rotate_left
          · simp only [Act.put, List.setIfInBounds_toArray, List.set_cons_zero, List.set_cons_succ, i64_w, i32_w]
            rfl
          refine pure_ (i := 21) (N := some 108) (v := ?_) (a' := ?_) #[true, true, true, true, true, true, true, true, true, true, true, true, true, true, true, true, true, true, true, false, true, true, false, false, false, false, false, false, false, false, false, false, false, false, false, false, false, false, false, false, false, false, false] rfl rfl (by kernel_rfl) (fun _ _ _ h => h) (Or.inl ⟨by rfl, ?_⟩) ?_ ?_
          rotate_left
          · intro w'
            go_simp
            with_reducible rfl
          rotate_left
          · simp only [Act.put, List.setIfInBounds_toArray, List.set_cons_zero, List.set_cons_succ, i64_w, i32_w]
            rfl
          refine pure_ (i := 22) (N := some 109) (v := ?_) (a' := ?_) #[true, true, true, true, true, true, true, true, true, true, true, true, true, true, true, true, true, true, true, false, true, true, true, false, false, false, false, false, false, false, false, false, false, false, false, false, false, false, false, false, false, false, false] rfl rfl (by kernel_rfl) (fun _ _ _ h => h) (Or.inl ⟨by rfl, ?_⟩) ?_ ?_
          rotate_left
          · intro w'
            go_simp
            with_reducible rfl
          rotate_left
          · simp only [Act.put, List.setIfInBounds_toArray, List.set_cons_zero, List.set_cons_succ, i64_w, i32_w]
            rfl
          refine take_ (i := 23) (N := some 110) (v := ?_) (a' := ?_) #[true, true, true, true, true, true, true, true, true, true, true, true, true, true, true, true, true, true, true, false, true, true, true, true, false, false, false, false, false, false, false, false, false, false, false, false, false, false, false, false, false, false, false] rfl rfl (by kernel_rfl) (fun _ _ _ h => h) (Or.inl ⟨by rfl, ?_⟩) hHeld ?_ ?_
          rotate_left
          · rintro w' ⟨s0, s1⟩
            go_simp
            with_reducible rfl
          rotate_left
          · simp only [Act.put, List.setIfInBounds_toArray, List.set_cons_zero, List.set_cons_succ, i64_w, i32_w]
            rfl
          refine pure_ (i := 24) (N := some 111) (v := ?_) (a' := ?_) #[true, true, true, true, true, true, true, true, true, true, true, true, true, true, true, true, true, true, true, false, true, true, true, true, true, false, false, false, false, false, false, false, false, false, false, false, false, false, false, false, false, false, false] rfl rfl (by kernel_rfl) (fun _ _ _ h => h) (Or.inl ⟨by rfl, ?_⟩) ?_ ?_
          rotate_left
          · intro w'
            go_simp
            with_reducible rfl
          rotate_left
          · simp only [Act.put, List.setIfInBounds_toArray, List.set_cons_zero, List.set_cons_succ, i64_w, i32_w]
            rfl
          refine one_ (i := 19) (N := some 106) #[true, true, true, true, true, true, true, true, true, true, true, true, true, true, true, true, true, true, true, true, true, true, true, true, true, false, false, false, false, false, false, false, false, false, false, false, false, false, false, false, false, false, false] rfl rfl (by kernel_rfl) (by decide) (fun KK hK => ?_)
          refine goes_ Try.func30 (by kernel_rfl) rfl #[.pointer (some ⟨g, 0, none⟩), .int .i64 a] (by rfl) rfl rfl (by simp only [List.map_toArray, List.map_cons, List.map_nil]; rfl) ?_
          refine HC3.out.mono ?_
          rintro e y3 ⟨rfl, hb3⟩
          have hs3 := HW2.out.new hb3
          refine ⟨_, rfl, ?_⟩
          refine hK.out _ _ (HPR.out.new hs3.bel).held (fun hHeld => ?_)
          clear hK KK
          refine norm_ (a' := ?_) ?_ ?_
          rotate_left
          · show Act.put _ (some 106) _ = _
            simp only [Act.put, List.setIfInBounds_toArray, List.set_cons_zero, List.set_cons_succ, i64_w, i32_w]
            rfl
          have HW3 := Aside0.mk hs3
          have hc4 := (HP.out.new hs3.bel).lenR HMB.out.1 HRD.out.fineM b
          rw [HLM.out] at hc4
          have HC4 := Aside0.mk hc4
          unfold ptr at HC4
          clear hb3 hs3 HC3 HW2 hc4
          refine one_ (i := 25) (N := some 112) #[true, true, true, true, true, true, true, true, true, true, true, true, true, true, true, true, true, true, true, true, true, true, true, true, true, true, false, false, false, false, false, false, false, false, false, false, false, false, false, false, false, false, false] rfl rfl (by kernel_rfl) (by decide) (fun KK hK => ?_)
          refine goes_ Try.func54 (by kernel_rfl) rfl #[.pointer (some ⟨gx, 0, none⟩), .int .i64 b] (by rfl) rfl rfl (by simp only [List.map_toArray, List.map_cons, List.map_nil]; rfl) ?_
          refine HC4.out.mono ?_
          rintro e y4 ⟨rfl, hb4⟩
          have hs4 := HW3.out.new hb4
          refine ⟨_, rfl, ?_⟩
          refine hK.out _ _ (HPR.out.new hs4.bel).held (fun hHeld => ?_)
          clear hK KK
          refine norm_ (a' := ?_) ?_ ?_
          rotate_left
          · show Act.put _ (some 112) _ = _
            simp only [Act.put, List.setIfInBounds_toArray, List.set_cons_zero, List.set_cons_succ, i64_w, i32_w]
            rfl
          have HW4 := Aside0.mk hs4
          have hc5 := (HP.out.new hs4.bel).textD HRD.out.pl a
          rw [HTX.out] at hc5
          have HC5 := Aside0.mk hc5
          unfold ptr at HC5
          clear hb4 hs4 HC4 HW3 hc5
          refine pure_ (i := 26) (N := some 113) (v := ?_) (a' := ?_) #[true, true, true, true, true, true, true, true, true, true, true, true, true, true, true, true, true, true, true, true, true, true, true, true, true, true, true, false, false, false, false, false, false, false, false, false, false, false, false, false, false, false, false] rfl rfl (by kernel_rfl) (fun _ _ _ h => h) (Or.inl ⟨by rfl, ?_⟩) ?_ ?_
          rotate_left
          · intro w'
            go_simp
            with_reducible rfl
          rotate_left
          · simp only [Act.put, List.setIfInBounds_toArray, List.set_cons_zero, List.set_cons_succ, i64_w, i32_w]
            rfl
          refine pure_ (i := 27) (N := some 114) (v := ?_) (a' := ?_) #[true, true, true, true, true, true, true, true, true, true, true, true, true, true, true, true, true, true, true, true, true, true, true, true, true, true, true, true, false, false, false, false, false, false, false, false, false, false, false, false, false, false, false] rfl rfl (by kernel_rfl) (fun _ _ _ h => h) (Or.inl ⟨by rfl, ?_⟩) ?_ ?_
          rotate_left
          · intro w'
            go_simp
            with_reducible rfl
          rotate_left
          · simp only [Act.put, List.setIfInBounds_toArray, List.set_cons_zero, List.set_cons_succ, i64_w, i32_w]
            rfl
          refine pure_ (i := 28) (N := some 115) (v := ?_) (a' := ?_) #[true, true, true, true, true, true, true, true, true, true, true, true, true, true, true, true, true, true, true, true, true, true, true, true, true, true, true, true, true, false, false, false, false, false, false, false, false, false, false, false, false, false, false] rfl rfl (by kernel_rfl) (fun _ _ _ h => h) (Or.inl ⟨by rfl, ?_⟩) ?_ ?_
          rotate_left
          · intro w'
            go_simp
            with_reducible rfl
          rotate_left
          · simp only [Act.put, List.setIfInBounds_toArray, List.set_cons_zero, List.set_cons_succ, i64_w, i32_w]
            rfl
          refine pure_ (i := 29) (N := some 116) (v := ?_) (a' := ?_) #[true, true, true, true, true, true, true, true, true, true, true, true, true, true, true, true, true, true, true, true, true, true, true, true, true, true, true, true, true, true, false, false, false, false, false, false, false, false, false, false, false, false, false] rfl rfl (by kernel_rfl) (fun _ _ _ h => h) (Or.inl ⟨by rfl, ?_⟩) ?_ ?_
          rotate_left
          · intro w'
            go_simp
            with_reducible rfl
          rotate_left
          · simp only [Act.put, List.setIfInBounds_toArray, List.set_cons_zero, List.set_cons_succ, i64_w, i32_w]
            rfl
          refine pure_ (i := 30) (N := some 117) (v := ?_) (a' := ?_) #[true, true, true, true, true, true, true, true, true, true, true, true, true, true, true, true, true, true, true, true, true, true, true, true, true, true, true, true, true, true, true, false, false, false, false, false, false, false, false, false, false, false, false] rfl rfl (by kernel_rfl) (fun _ _ _ h => h) (Or.inl ⟨by rfl, ?_⟩) ?_ ?_
          rotate_left
          · intro w'
            go_simp
            with_reducible rfl
          rotate_left
          · simp only [Act.put, List.setIfInBounds_toArray, List.set_cons_zero, List.set_cons_succ, i64_w, i32_w]
            rfl
          refine pure_ (i := 31) (N := some 118) (v := ?_) (a' := ?_) #[true, true, true, true, true, true, true, true, true, true, true, true, true, true, true, true, true, true, true, true, true, true, true, true, true, true, true, true, true, true, true, true, false, false, false, false, false, false, false, false, false, false, false] rfl rfl (by kernel_rfl) (fun _ _ _ h => h) (Or.inl ⟨by rfl, ?_⟩) ?_ ?_
          rotate_left
          · intro w'
            go_simp
            with_reducible rfl
          rotate_left
          · simp only [Act.put, List.setIfInBounds_toArray, List.set_cons_zero, List.set_cons_succ, i64_w, i32_w]
            rfl
          refine take_ (i := 32) (N := some 119) (v := ?_) (a' := ?_) #[true, true, true, true, true, true, true, true, true, true, true, true, true, true, true, true, true, true, true, true, true, true, true, true, true, true, true, true, true, true, true, true, true, false, false, false, false, false, false, false, false, false, false] rfl rfl (by kernel_rfl) (fun _ _ _ h => h) (Or.inl ⟨by rfl, ?_⟩) hHeld ?_ ?_
          rotate_left
          · rintro w' ⟨s0, s1⟩
            go_simp
            with_reducible rfl
          rotate_left
          · simp only [Act.put, List.setIfInBounds_toArray, List.set_cons_zero, List.set_cons_succ, i64_w, i32_w]
            rfl
          refine pure_ (i := 33) (N := some 120) (v := ?_) (a' := ?_) #[true, true, true, true, true, true, true, true, true, true, true, true, true, true, true, true, true, true, true, true, true, true, true, true, true, true, true, true, true, true, true, true, true, true, false, false, false, false, false, false, false, false, false] rfl rfl (by kernel_rfl) (fun _ _ _ h => h) (Or.inl ⟨by rfl, ?_⟩) ?_ ?_
          rotate_left
          · intro w'
            go_simp
            with_reducible rfl
          rotate_left
          · simp only [Act.put, List.setIfInBounds_toArray, List.set_cons_zero, List.set_cons_succ, i64_w, i32_w]
            rfl
          refine pure_ (i := 35) (N := some 122) (v := ?_) (a' := ?_) #[true, true, true, true, true, true, true, true, true, true, true, true, true, true, true, true, true, true, true, true, true, true, true, true, true, true, true, true, true, true, true, true, true, true, false, true, false, false, false, false, false, false, false] rfl rfl (by kernel_rfl) (fun _ _ _ h => h) (Or.inl ⟨by rfl, ?_⟩) ?_ ?_
          rotate_left
          · intro w'
            go_simp
            with_reducible rfl
          rotate_left
          · simp only [Act.put, List.setIfInBounds_toArray, List.set_cons_zero, List.set_cons_succ, i64_w, i32_w]
            rfl
          refine pure_ (i := 36) (N := some 123) (v := ?_) (a' := ?_) #[true, true, true, true, true, true, true, true, true, true, true, true, true, true, true, true, true, true, true, true, true, true, true, true, true, true, true, true, true, true, true, true, true, true, false, true, true, false, false, false, false, false, false] rfl rfl (by kernel_rfl) (fun _ _ _ h => h) (Or.inl ⟨by rfl, ?_⟩) ?_ ?_
          rotate_left
          · intro w'
            go_simp
            with_reducible rfl
          rotate_left
          · simp only [Act.put, List.setIfInBounds_toArray, List.set_cons_zero, List.set_cons_succ, i64_w, i32_w]
            rfl
          refine pure_ (i := 37) (N := some 124) (v := ?_) (a' := ?_) #[true, true, true, true, true, true, true, true, true, true, true, true, true, true, true, true, true, true, true, true, true, true, true, true, true, true, true, true, true, true, true, true, true, true, false, true, true, true, false, false, false, false, false] rfl rfl (by kernel_rfl) (fun _ _ _ h => h) (Or.inl ⟨by rfl, ?_⟩) ?_ ?_
          rotate_left
          · intro w'
            go_simp
            with_reducible rfl
          rotate_left
          · simp only [Act.put, List.setIfInBounds_toArray, List.set_cons_zero, List.set_cons_succ, i64_w, i32_w]
            rfl
          refine take_ (i := 38) (N := some 125) (v := ?_) (a' := ?_) #[true, true, true, true, true, true, true, true, true, true, true, true, true, true, true, true, true, true, true, true, true, true, true, true, true, true, true, true, true, true, true, true, true, true, false, true, true, true, true, false, false, false, false] rfl rfl (by kernel_rfl) (fun _ _ _ h => h) (Or.inl ⟨by rfl, ?_⟩) hHeld ?_ ?_
          rotate_left
          · rintro w' ⟨s0, s1⟩
            go_simp
            with_reducible rfl
          rotate_left
          · simp only [Act.put, List.setIfInBounds_toArray, List.set_cons_zero, List.set_cons_succ, i64_w, i32_w]
            rfl
          refine pure_ (i := 39) (N := some 126) (v := ?_) (a' := ?_) #[true, true, true, true, true, true, true, true, true, true, true, true, true, true, true, true, true, true, true, true, true, true, true, true, true, true, true, true, true, true, true, true, true, true, false, true, true, true, true, true, false, false, false] rfl rfl (by kernel_rfl) (fun _ _ _ h => h) (Or.inl ⟨by rfl, ?_⟩) ?_ ?_
          rotate_left
          · intro w'
            go_simp
            with_reducible rfl
          rotate_left
          · simp only [Act.put, List.setIfInBounds_toArray, List.set_cons_zero, List.set_cons_succ, i64_w, i32_w]
            rfl
          refine one_ (i := 34) (N := some 121) #[true, true, true, true, true, true, true, true, true, true, true, true, true, true, true, true, true, true, true, true, true, true, true, true, true, true, true, true, true, true, true, true, true, true, true, true, true, true, true, true, false, false, false] rfl rfl (by kernel_rfl) (by decide) (fun KK hK => ?_)
          refine goes_ Try.func23 (by kernel_rfl) rfl #[.pointer (some ⟨g, 0, none⟩), .int .i64 a] (by rfl) rfl rfl (by simp only [List.map_toArray, List.map_cons, List.map_nil]; rfl) ?_
          refine HC5.out.mono ?_
          rintro e y5 ⟨rfl, hb5⟩
          have hs5 := HW4.out.new hb5
          refine ⟨_, rfl, ?_⟩
          refine hK.out _ _ (HPR.out.new hs5.bel).held (fun hHeld => ?_)
          clear hK KK
          refine norm_ (a' := ?_) ?_ ?_
          rotate_left
          · show Act.put _ (some 121) _ = _
            simp only [Act.put, List.setIfInBounds_toArray, List.set_cons_zero, List.set_cons_succ, i64_w, i32_w]
            rfl
          have HW5 := Aside0.mk hs5
          have hc6 := (HP.out.new hs5.bel).textR HMB.out.1 b
          rw [HTM.out] at hc6
          have HC6 := Aside0.mk hc6
          unfold ptr at HC6
          clear hb5 hs5 HC5 HW4 hc6
          refine one_ (i := 40) (N := some 127) #[true, true, true, true, true, true, true, true, true, true, true, true, true, true, true, true, true, true, true, true, true, true, true, true, true, true, true, true, true, true, true, true, true, true, true, true, true, true, true, true, true, false, false] rfl rfl (by kernel_rfl) (by decide) (fun KK hK => ?_)
          refine goes_ Try.func42 (by kernel_rfl) rfl #[.pointer (some ⟨gx, 0, none⟩), .int .i64 b] (by rfl) rfl rfl (by simp only [List.map_toArray, List.map_cons, List.map_nil]; rfl) ?_
          refine HC6.out.mono ?_
          rintro e y6 ⟨rfl, rfl⟩
          refine ⟨_, rfl, ?_⟩
          refine hK.out _ _ hHeld (fun hHeld => ?_)
          clear hK KK
          refine norm_ (a' := ?_) ?_ ?_
          rotate_left
          · show Act.put _ (some 127) _ = _
            simp only [Act.put, List.setIfInBounds_toArray, List.set_cons_zero, List.set_cons_succ, i64_w, i32_w]
            rfl
          clear HC6
          refine pure_ (i := 41) (N := some 128) (v := ?_) (a' := ?_) #[true, true, true, true, true, true, true, true, true, true, true, true, true, true, true, true, true, true, true, true, true, true, true, true, true, true, true, true, true, true, true, true, true, true, true, true, true, true, true, true, true, true, false] rfl rfl (by kernel_rfl) (fun _ _ _ h => h) (Or.inl ⟨by rfl, ?_⟩) ?_ ?_
          rotate_left
          · intro w'
            go_simp
            with_reducible rfl
          rotate_left
          · simp only [Act.put, List.setIfInBounds_toArray, List.set_cons_zero, List.set_cons_succ, i64_w, i32_w]
            rfl
          refine pure_ (i := 42) (N := some 129) (v := ?_) (a' := ?_) #[true, true, true, true, true, true, true, true, true, true, true, true, true, true, true, true, true, true, true, true, true, true, true, true, true, true, true, true, true, true, true, true, true, true, true, true, true, true, true, true, true, true, true] rfl rfl (by kernel_rfl) (fun _ _ _ h => h) (Or.inl ⟨by rfl, ?_⟩) ?_ ?_
          rotate_left
          · intro w'
            go_simp
            with_reducible rfl
          rotate_left
          · simp only [Act.put, List.setIfInBounds_toArray, List.set_cons_zero, List.set_cons_succ, i64_w, i32_w]
            rfl
          refine done_ (by kernel_rfl) ?_
          have hc7 := (HP.out.new HW5.out.bel).kindR HMB.out.1 b
          rw [HKK.out] at hc7
          have HC7 := Aside0.mk hc7
          have k51 : y6.cell? ⟨p, 1, none⟩ = some (.pointer (some ⟨gx, 0, none⟩)) := (HPR.out.new HW5.out.bel).c1
          have k50 : y6.cell? ⟨p, 0, none⟩ = some (.pointer (some ⟨g, 0, none⟩)) := (HPR.out.new HW5.out.bel).c0
          unfold ptr at HC7
          clear hc7
          go_wp2_with fail
          refine HC7.out.mono ?_
          rintro e y7 ⟨rfl, rfl⟩
          clear HC7
          by_cases hk0 : kk = 0
          · have hab : a = b := by
              rcases HKZ.out with h1 | h1
              · exact h1.2
              · exact absurd (HKK.out.trans hk0) h1.1
            subst hab
            subst hk0
            go_wp2_with fail
            have hwi : wrap64 ((i : Int) + 1) = ((i + 1 : Nat) : Int) := by have := HLB.out; unfold wrap64; omega
            go_roundw
            case rel => exact ⟨i + 1, l, m, Z, _, _, c1, c2, rfl, rfl, by rw [hwi], ⟨by have := hi.out; exact ⟨hlt, this.2⟩⟩, hlm, hmt, HW5⟩
            case measure => rw [hwi]; have e1 := mapLen_is (HMP.out.1); have e2 := mapLen_is ((HW5.out.mp (bm, fwd Z) (by simp)).1); simp only [lenV, intOf, Int.toNat_natCast] at *; omega
          · have hkb : (kk == 0) = false := by simpa using hk0
            obtain ⟨-, hrho, x, hxL, y, hyM, hxa, hyb, hfy, hro⟩ : kindF M b ≠ 0 ∧ ρ a b ∧ ∃ x ∈ L, ∃ y ∈ M, x.k = a ∧ y.k = b ∧ fnd M b = some y ∧ RdO ρ x.o y.o := HKZ.out.resolve_left (fun e => hk0 (HKK.out.symm.trans e.1))
            have HXY := Aside0.mk (show x ∈ L ∧ x.k = a ∧ fnd L a = some x from ⟨hxL, hxa, hxa ▸ fnd_at HRD.out.pl hxL⟩)
            have HLX := Aside0.mk (show ln = (x.o.fs.length : Int) + tx.size by rw [← HLM.out, HLX0.out y hfy, ← HTM.out, HTX0.out y hfy, hro.fs.1])
            have HXF := Aside0.mk (show x.o.fs.length ≤ 1000 from (HRD.out.fine x hxL).fl)
            have hlook := hmt.out.look HRD.out hrho
            have mI := (HW5.out.mp (bm, fwd Z) (by simp)).1
            have mJ := (HW5.out.mp (bb, bwd Z) (by simp)).1
            have k1 := map_lookup (P := Try.prog) Try.underlying85 Try.underlying28 (Try.zeroValue28 y7) mI a true
            have k2 := map_lookup (P := Try.prog) Try.underlying85 Try.underlying28 (Try.zeroValue28 y7) mJ b true

            rcases hlook with ⟨g1, g2⟩ | ⟨g1, g2, g3, g4, g5⟩
            · rw [g1] at k1
              rw [g2] at k2
              simp only [Option.getD_some, Option.isSome_some, if_true] at k1 k2
              clear hxL hyM hxa hyb hfy hro hrho g1 g2 mI mJ
              go_wp2_with fail
              have hwi : wrap64 ((i : Int) + 1) = ((i + 1 : Nat) : Int) := by have := HLB.out; unfold wrap64; omega
              go_roundw
              case rel => exact ⟨i + 1, l, m, Z, _, _, c1, c2, rfl, rfl, by rw [hwi], ⟨by have := hi.out; exact ⟨hlt, this.2⟩⟩, hlm, hmt, HW5⟩
              case measure => rw [hwi]; have e1 := mapLen_is (HMP.out.1); have e2 := mapLen_is ((HW5.out.mp (bm, fwd Z) (by simp)).1); simp only [lenV, intOf, Int.toNat_natCast] at *; omega
            · rw [g1] at k1
              rw [g2] at k2
              simp only [Option.getD_none, Option.isSome_none, if_true] at k1 k2
              obtain ⟨v1, hu1, hm1, hbt1⟩ := map_update (P := Try.prog) Try.underlying85 Try.underlying28 mI a (.int .i64 b)
              rw [g4] at hm1
              have hp1 := HW5.out.put (i := 0) (by simp) hm1 hbt1
              obtain ⟨v2, hu2, hm2, hbt2⟩ := map_update (P := Try.prog) Try.underlying85 Try.underlying28 (hp1.mp (bb, bwd Z) (by simp)).1 b (.int .i64 a)
              rw [g5] at hm2
              have hp2 := hp1.put (i := 1) (by simp) hm2 hbt2
              have HWZ := Aside0.mk (show SW w v2 (some ⟨q1, 0, none⟩) c1 l (some ⟨q2, 0, none⟩) c2 m [(bm, fwd (Z ++ [(a, b)])), (bb, bwd (Z ++ [(a, b)]))] from hp2)
              have HMT2 := Aside0.mk g3
              clear hxL hyM hxa hyb hfy hro hrho g1 g2 g3 g4 g5 mI mJ hm1 hbt1 hp1 hm2 hbt2 hp2
              go_wp2_with fail
              go_loopw [5, 6, 15] (fun s5 s6 v15 wq => ∃ (j : Nat) (l' m' : List Int) (A1 A2 : Option Addr) (c1 c2 : Nat), s5 = .slice A1 l'.length c1 ∧ s6 = .slice A2 m'.length c2 ∧ v15 = .int .i64 j ∧ Aside0 (j ≤ x.o.fs.length ∧ l'.length = l.length + j) ∧ Aside0 (All2 (WR ρ) l' m') ∧ Aside0 (SW w wq A1 c1 l' A2 c2 m' [(bm, fwd (Z ++ [(a, b)])), (bb, bwd (Z ++ [(a, b)]))])) (fun s5 s6 v15 wq => x.o.fs.length - (intOf v15).toNat)
              case atStart => exact ⟨0, l, m, _, _, c1, c2, rfl, rfl, rfl, ⟨⟨Nat.zero_le _, by omega⟩⟩, hlm, HWZ⟩
              case round =>
                clear HWZ
                obtain ⟨j, l', m', A3, A4, c3, c4, rfl, rfl, rfl, hj, hlm', hsq⟩ := hrel
                have hml' : Aside0 (m'.length = l'.length) := ⟨hlm'.out.1.symm⟩
                have hc7 := (HP.out.new hsq.out.bel).textR HMB.out.1 b
                rw [HTM.out] at hc7
                have HC7 := Aside0.mk hc7
                have k31 : wr.cell? ⟨p, 1, none⟩ = some (.pointer (some ⟨gx, 0, none⟩)) := (HPR.out.new hsq.out.bel).c1
                have k30 : wr.cell? ⟨p, 0, none⟩ = some (.pointer (some ⟨g, 0, none⟩)) := (HPR.out.new hsq.out.bel).c0
                unfold ptr at HC7
                clear hc7
                rcases Bool.eq_false_or_eq_true (tx == (⟨#[]⟩ : ByteArray)) with htb | htb
                · have HTE := Aside0.mk (bq_empty htb)
                  go_wp2_with fail
                  refine HC7.out.mono ?_
                  rintro e z1 ⟨rfl, rfl⟩
                  clear HC7
                  have hc8 := (HP.out.new hsq.out.bel).lenR HMB.out.1 HRD.out.fineM b
                  rw [HLM.out] at hc8
                  have HC8 := Aside0.mk hc8
                  unfold ptr at HC8
                  clear hc8
                  go_wp2_with fail
                  refine HC8.out.mono ?_
                  rintro e z2 ⟨rfl, hbz2⟩
                  have hs2 := hsq.out.new hbz2
                  have k31 : z2.cell? ⟨p, 1, none⟩ = some (.pointer (some ⟨gx, 0, none⟩)) := (HPR.out.new hs2.bel).c1
                  have k30 : z2.cell? ⟨p, 0, none⟩ = some (.pointer (some ⟨g, 0, none⟩)) := (HPR.out.new hs2.bel).c0
                  have HS2 := Aside0.mk hs2
                  have hlnx : ln = (x.o.fs.length : Int) := by have := HLX.out; have := HTE.out; omega
                  have HLNX := Aside0.mk hlnx
                  clear HC8 hbz2 hs2 hlnx
                  by_cases hjl : j < x.o.fs.length
                  · have hjb : decide ((j : Int) < ln) = true := decide_eq_true (by rw [HLNX.out]; omega)
                    have hfe := HRD.out.fieldEq HAB.out j
                    obtain ⟨f1, hf1⟩ : ∃ f1, f1 = (fieldF L a j).1 := ⟨_, rfl⟩
                    obtain ⟨f2, hf2⟩ : ∃ f2, f2 = (fieldF M b j).1 := ⟨_, rfl⟩
                    have hz1 : (fieldF L a j).2 = 0 := by
                      unfold fieldF
                      rw [HXY.out.2.2]
                      simp only [if_neg (show ¬ ((j : Int) < 0 ∨ (x.o.fs.length : Int) ≤ (j : Int)) by omega)]
                    have hc9 := (HP.out.new HS2.out.bel).fieldD HRD.out.pl HRD.out.kd a j
                    rw [← hf1, hz1] at hc9
                    rw [← hf1, ← hf2, hz1] at hfe
                    have HC9 := Aside0.mk hc9
                    have HFE := Aside0.mk hfe
                    have HF2 := Aside0.mk hf2
                    unfold ptr at HC9
                    clear hc9 hfe hf1 hf2 hz1
                    go_wp2_with fail
                    refine HC9.out.mono ?_
                    rintro e z3 ⟨rfl, hbz3⟩
                    have hs3 := HS2.out.new hbz3
                    have k31 : z3.cell? ⟨p, 1, none⟩ = some (.pointer (some ⟨gx, 0, none⟩)) := (HPR.out.new hs3.bel).c1
                    have hc10 := (HP.out.new hs3.bel).fieldR HMB.out.1 b j
                    rw [← HF2.out, ← HFE.out.1] at hc10
                    have HC10 := Aside0.mk hc10
                    obtain ⟨A5, c5, z5, hrun1, hs5, hsz5⟩ := hs3.more1 f1 (by have := hj.out; have := HLB.out; have := HXF.out; omega)
                    obtain ⟨A6, c6, z6, hrun2, hs6, hsz6⟩ := hs5.more2 f2 (by have := hj.out; have := HLB.out; have := hml'.out; have := HXF.out; omega)
                    have HS6 := Aside0.mk hs6
                    unfold ptr at HC10
                    clear hbz3 hs3 hc10 hs5 hsz5 hs6 hsz6 HC9
                    go_wp2_with fail
                    refine HC10.out.mono ?_
                    rintro e z4 ⟨rfl, rfl⟩
                    clear HC10
                    go_wp2_with (first | (at_builtin; refine wpList_plain rfl fun KK hK => wp_append_words _ _ 33 rfl _ _ _ _ rfl rfl hrun1 (hK _ _ ?_)) | (at_builtin; refine wpList_plain rfl fun KK hK => wp_append_words _ _ 33 rfl _ _ _ _ rfl rfl hrun2 (hK _ _ ?_)))
                    have hwj : wrap64 ((j : Int) + 1) = ((j + 1 : Nat) : Int) := by have := HXF.out; unfold wrap64; omega
                    go_roundw
                    case rel => exact ⟨j + 1, l' ++ [f1], m' ++ [f2], A5, A6, c5, c6, by rw [List.length_append]; rfl, by rw [List.length_append]; rfl, by rw [hwj], ⟨by have := hj.out; exact ⟨hjl, by rw [List.length_append, List.length_singleton]; omega⟩⟩, ⟨hlm'.out.app ⟨rfl, fun t ht => by
                      have : t = 0 := by simpa using ht
                      subst this; exact HFE.out.2⟩⟩, HS6⟩
                    case measure => rw [hwj]; simp only [intOf, Int.toNat_natCast]; omega
                  · have hjb : decide ((j : Int) < ln) = false := decide_eq_false (by rw [HLNX.out]; omega)
                    go_wp2_with fail
                    have hwi : wrap64 ((i : Int) + 1) = ((i + 1 : Nat) : Int) := by have := HLB.out; unfold wrap64; omega
                    go_roundw
                    case rel => exact ⟨i + 1, l', m', Z ++ [(a, b)], A3, A4, c3, c4, rfl, rfl, by rw [hwi], ⟨by have h1 := hi.out; have h2 := hj.out; have h3 := HXF.out; rw [List.length_append, List.length_singleton]; omega⟩, hlm', HMT2, HS2⟩
                    case measure => rw [hwi]; have e1 := mapLen_is (HMP.out.1); have e2 := mapLen_is ((HS2.out.mp (bm, fwd (Z ++ [(a, b)])) (by simp)).1); have h2 := hj.out; have h3 := HXF.out; have h4 := HMT2.out.len HRD.out; simp only [lenV, intOf, fwd, List.length_map, List.length_append, List.length_singleton, Int.toNat_natCast] at *; omega
                  have hwi : wrap64 ((i : Int) + 1) = ((i + 1 : Nat) : Int) := by have := HLB.out; unfold wrap64; omega
                  go_roundw
                  case rel => exact ⟨i + 1, l', m', Z ++ [(a, b)], A3, A4, c3, c4, rfl, rfl, by rw [hwi], ⟨by have h1 := hi.out; have h2 := hj.out; have h3 := HXF.out; rw [List.length_append, List.length_singleton]; omega⟩, hlm', HMT2, hsq⟩
                  case measure => rw [hwi]; have e1 := mapLen_is (HMP.out.1); have e2 := mapLen_is ((hsq.out.mp (bm, fwd (Z ++ [(a, b)])) (by simp)).1); have h2 := hj.out; have h3 := HXF.out; have h4 := HMT2.out.len HRD.out; simp only [lenV, intOf, fwd, List.length_map, List.length_append, List.length_singleton, Int.toNat_natCast] at *; omega
                · have htl : ¬ tx.toList = [] := fun h => by rw [bq_toList h] at htb; cases htb
                  go_wp2_with fail
                  refine HC7.out.mono ?_
                  rintro e z1 ⟨rfl, rfl⟩
                  clear HC7
                  go_wp2_with fail
                  all_goals
                    have hwi : wrap64 ((i : Int) + 1) = ((i + 1 : Nat) : Int) := by have := HLB.out; unfold wrap64; omega
                    go_roundw
                    case rel => exact ⟨i + 1, l', m', Z ++ [(a, b)], A3, A4, c3, c4, rfl, rfl, by rw [hwi], ⟨by have h1 := hi.out; have h2 := hj.out; have h3 := HXF.out; rw [List.length_append, List.length_singleton]; omega⟩, hlm', HMT2, hsq⟩
                    case measure => rw [hwi]; have e1 := mapLen_is (HMP.out.1); have e2 := mapLen_is ((hsq.out.mp (bm, fwd (Z ++ [(a, b)])) (by simp)).1); have h2 := hj.out; have h3 := HXF.out; have h4 := HMT2.out.len HRD.out; simp only [lenV, intOf, fwd, List.length_map, List.length_append, List.length_singleton, Int.toNat_natCast] at *; omega
        · have hltb : decide ((i : Int) < (l.length : Int)) = false := decide_eq_false (by omega)
          have hil : ¬ (i : Int) < (l.length : Int) := by omega
          go_wp2_with fail
          go_returns
          exact ⟨rfl, hsw.out.bel⟩
end
end Go.Proofs.Ytlghnldlkbgajaa.S
