
/- heap: the document's heap: Collect. -/
import Derived.Test.YtlghnldlkbgajaaHRf11
namespace Go.Proofs.Ytlghnldlkbgajaa.S
open Go.RowKit Go.Proofs.YtlghnldlkbgajaaW.PrintWords Go.Proofs.YtlghnldlkbgajaaW.PrintLast Go.Proofs.YtlghnldlkbgajaaW.PrintMore
set_option linter.unusedVariables false
set_option linter.unusedSimpArgs false
/-- A whole collection of the document's. -/
def RAll (L : List OW) (h : RS) (L' : List OW) (h' : RS) : Prop := ∃ out, ReachOk L false h.roots out ∧ L' = movL h.nx out ∧ h' = { h with major := h.major + 1 }.moved out
/-- A young one. -/
def RYoung (L : List OW) (h : RS) (L' : List OW) (h' : RS) : Prop := ∃ yg, ReachOk L true (h.roots ++ notedW L) yg ∧ L' = movL h.nx (stayL L yg) ∧ h' = { h with minor := h.minor + 1 }.moved (stayL L yg)
def RMid (all : Bool) (L : List OW) (h : RS) (L' : List OW) (h' : RS) : Prop :=
  (all = true ∧ RAll L h L' h') ∨ (all = false ∧ ∃ L1 h1, RYoung L h L1 h1 ∧ ((h1.old < sumB L1 true ∧ RAll L1 h1 L' h') ∨ (¬ h1.old < sumB L1 true ∧ L' = L1 ∧ h' = h1)))
def RCol (all : Bool) (L : List OW) (h : RS) (e : Int) (L' : List OW) (h' : RS) : Prop :=
  (h.spent = true ∧ e = 140 ∧ L' = L ∧ h' = h) ∨ (h.spent = false ∧ ∃ h1, RMid all L h L' h1 ∧ ((h1.old < sumB L' true ∧ e = 140 ∧ h' = { h1 with spent := true }) ∨ (¬ h1.old < sumB L' true ∧ e = 0 ∧ h' = h1)))
theorem fine_done {o : PO} (h : o.Fine) (tt : List (Int × Int)) : (o.done tt).Fine :=
  ⟨by show (o.fs.map _).length ≤ 1000; rw [List.length_map]; exact h.fl, h.tx, fun e => by show o.fs.map _ = []; rw [h.kt e]; rfl, h.kf⟩
theorem movL_fine {nx : Int} {S : List OW} (hf : ∀ x ∈ S, x.o.Fine) : ∀ x ∈ movL nx S, x.o.Fine := fun x hx => by
  obtain ⟨j, hj, rfl⟩ := List.mem_iff_getElem.1 hx
  rw [movL_len] at hj
  rw [movL_get nx S hj]
  exact fine_done (hf _ (List.getElem_mem hj)) _
/-- Smaller bounds: two collections more. -/
structure SmS (L : List OW) (h : RS) : Prop where
  sm : SmR L h
  nx : h.nx ≤ 700000000000
  mm : h.minor ≤ 800000000000 ∧ h.major ≤ 800000000000
structure SmT (L : List OW) (h : RS) : Prop where
  sm : SmR L h
  nx : h.nx ≤ 600000000000
  mm : h.minor ≤ 700000000000 ∧ h.major ≤ 700000000000
theorem SmR.moved {L S : List OW} {h : RS} (h1 : SmR L h) (hx : h.nx ≤ 700000000000) (hS : S.length ≤ L.length) (hsub : ∀ x ∈ S, x ∈ L) : SmR (movL h.nx S) (h.moved S) := by
  have hl := h1.len
  have hn := h1.nx
  refine ⟨by rw [movL_len]; omega, ?_, movL_fine (fun x hx => h1.fine x (hsub x hx)), by show (h.roots.map _).length ≤ _; rw [List.length_map]; exact h1.roots, h1.mm⟩
  show 0 < h.nx + 2 * (S.length : Int) ∧ (h.nx + 2 * (S.length : Int)) % 2 = 0 ∧ h.nx + 2 * (S.length : Int) ≤ 800000000000
  omega
theorem stayL_le (L yg : List OW) : (stayL L yg).length ≤ L.length := List.length_filter_le _ _
theorem stayL_sub {L yg : List OW} : ∀ x ∈ stayL L yg, x ∈ L := fun x hx => (List.mem_filter.1 hx).1
theorem RAll.sm {L L' : List OW} {h h' : RS} (hA : RAll L h L' h') (hs : SmS L h) : SmR L' h' ∧ h'.old = h.old := by
  obtain ⟨out, h1, rfl, rfl⟩ := hA
  have hm := hs.sm.mm
  have h2 : SmR L { h with major := h.major + 1 } := ⟨hs.sm.len, hs.sm.nx, hs.sm.fine, hs.sm.roots, by have := hs.mm; show 0 ≤ h.minor ∧ h.minor ≤ 900000000000 ∧ 0 ≤ h.major + 1 ∧ h.major + 1 ≤ 900000000000; omega⟩
  exact ⟨h2.moved (h := { h with major := h.major + 1 }) hs.nx (ts_le h1.sub h1.nd) h1.sub, rfl⟩
theorem RYoung.sm {L L' : List OW} {h h' : RS} (hA : RYoung L h L' h') (hs : SmS L h) : SmR L' h' ∧ h'.old = h.old := by
  obtain ⟨yg, h1, rfl, rfl⟩ := hA
  have hm := hs.sm.mm
  have h2 : SmR L { h with minor := h.minor + 1 } := ⟨hs.sm.len, hs.sm.nx, hs.sm.fine, hs.sm.roots, by have := hs.mm; show 0 ≤ h.minor + 1 ∧ h.minor + 1 ≤ 900000000000 ∧ 0 ≤ h.major ∧ h.major ≤ 900000000000; omega⟩
  exact ⟨h2.moved (h := { h with minor := h.minor + 1 }) hs.nx (stayL_le L yg) stayL_sub, rfl⟩
theorem SmT.s {L : List OW} {h : RS} (s : SmT L h) : SmS L h := ⟨s.sm, by have := s.nx; omega, by have := s.mm; omega⟩
theorem RYoung.room {L L' : List OW} {h h' : RS} (hA : RYoung L h L' h') (hs : SmT L h) : h'.nx ≤ 700000000000 ∧ h'.minor ≤ 800000000000 ∧ h'.major ≤ 800000000000 := by
  obtain ⟨yg, h1, rfl, rfl⟩ := hA
  have hl := hs.sm.len
  have hy := stayL_le L yg
  have := hs.nx
  have := hs.mm
  show h.nx + 2 * ((stayL L yg).length : Int) ≤ 700000000000 ∧ h.minor + 1 ≤ 800000000000 ∧ h.major ≤ 800000000000
  omega
section
variable {w : World} {g rc : Nat} {V : Value} {R : Option Addr} {L : List OW} {h : RS}
theorem all_calls (H : HR w g V R rc L h) (hs : SmR L h) : Calls Try.prog 44 #[ptr g] w fun e w' => e = .returned (.tuple #[]) ∧ ∃ L' h' V', RAll L h L' h' ∧ HR w' g V' R rc L' h' ∧ StepR g V R L V' R L' w w' :=
  (collectAll_calls H hs).mono fun e w' ⟨h1, out, SA, sc, h2, h3, h4⟩ => ⟨h1, _, _, _, ⟨out, h2, rfl, rfl⟩, h3, h4⟩
theorem young_calls (H : HR w g V R rc L h) (hs : SmR L h) : Calls Try.prog 45 #[ptr g] w fun e w' => e = .returned (.tuple #[]) ∧ ∃ L' h' V', RYoung L h L' h' ∧ HR w' g V' R rc L' h' ∧ StepR g V R L V' R L' w w' :=
  (collectYoung_calls H hs).mono fun e w' ⟨h1, yg, SA, sc, h2, h3, h4⟩ => ⟨h1, _, _, _, ⟨yg, h2, rfl, rfl⟩, h3, h4⟩
theorem StepR.drew {V' : Value} {R' : Option Addr} {L' : List OW} {w1 : World} (a : StepR g V R L V' R' L' w w1) : StepR g V R L V' R' L' w w1.drew :=
  ⟨a.fr.trans ((FrP.ofFr (Fr.drew [] w1)).mono (by simp)), a.ft⟩
/-- Behind the collections: is there too much? -/
theorem spend {V' : Value} {L' : List OW} {h1 : RS} {w1 : World} (H : HR w1 g V' R rc L' h1) (a : StepR g V R L V' R L' w w1) : HR (w1.setCell ⟨g, 7, none⟩ (.bool true)) g V' R rc L' { h1 with spent := true } ∧ StepR g V R L V' R L' w (w1.setCell ⟨g, 7, none⟩ (.bool true)) := by
  have hf := Fr.set w1 g 7 (.bool true)
  have hfq : FrP (FootQ g R L') w1 (w1.setCell ⟨g, 7, none⟩ (.bool true)) := (FrP.ofFr hf).mono (fun k _ hk => .inl (by simpa using hk))
  refine ⟨H.after (h' := { h1 with spent := true }) (H.q.turned (V' := V') (h' := { h1 with spent := true }) hf (by rw [blk_put H.q.hp 7 (.bool true) rfl]; rfl) rfl) hfq (by show h1.nx ≤ h1.nx; omega), a.trans (StepR.ofQ hfq (fun k hk => .inl hk))⟩
set_option maxRecDepth 100000 in
set_option maxHeartbeats 2000000 in
theorem rcollect_calls (H : HR w g V R rc L h) (hs : SmT L h) (all : Bool) :
    Calls Try.prog 21 #[ptr g, .bool all] w fun e w' => ∃ err L' h' V', e = .returned (.int .i64 err) ∧ RCol all L h err L' h' ∧ HR w' g V' R rc L' h' ∧ StepR g V R L V' R L' w w' := by
  have c7 := H.q.c7
  have HH := Aside0.mk H
  have HS := Aside0.mk hs
  have HA := Aside0.mk (all_calls H hs.sm)
  have HY := Aside0.mk (young_calls H hs.sm)
  unfold ptr
  unfold ptr at HA HY
  clear H hs
  cases hsp : h.spent with
  | true =>
    rw [hsp] at c7
    have HRES := Aside0.mk (show RCol all L h 140 L h from .inl ⟨hsp, rfl, rfl, rfl⟩)
    clear hsp
    go_enter Try.func21, Try.ntmps21
    go_wp2_with fail
    go_returns
    exact ⟨140, L, h, V, rfl, HRES.out, HH.out, StepR.refl _ _ _ _ _⟩
  | false =>
    rw [hsp] at c7
    cases all with
    | true =>
      clear HY
      go_enter Try.func21, Try.ntmps21
      go_wp2_with fail
      refine HA.out.mono ?_
      rintro e w1 ⟨rfl, L1, h1, V1, hra, hr1, st1⟩
      have hsm := (hra.sm HS.out.s).1
      have h1d := hr1.fr0 (Fr.drew [] w1)
      clear HA
      obtain ⟨od, hod⟩ : ∃ x, x = h1.old := ⟨_, rfl⟩
      have c1d : w1.drew.cell? ⟨g, 1, none⟩ = some (.int .i64 od) := by rw [hod]; exact h1d.q.c1
      have HSM := Aside0.mk (rsum_calls h1d (by have := hsm.len; omega) hsm.fine true)
      unfold ptr at HSM
      have HOD := Aside0.mk hod
      have H1D := Aside0.mk h1d
      have f7 : w1.drew.frozen? ⟨g, 7, none⟩ = false := h1d.q.fz 7
      have c7 : w1.drew.cell? ⟨g, 7, none⟩ = some (.bool h1.spent) := h1d.q.c7
      have HMID := Aside0.mk (show RMid _ L h L1 h1 from .inl ⟨rfl, hra⟩)
      have HSP := Aside0.mk (spend h1d st1.drew)
      have HST := Aside0.mk st1.drew
      clear h1d st1 hsm hod
      go_wp2_with fail
      refine start_ (n := 7) (S := (fun w' => w'.cell? ⟨g, 1, none⟩ = some (.int .i64 od))) (ds := []) #[false, false, false, false, false, false, false] (by kernel_rfl) rfl rfl c1d (fun hHeld => ?_)
      refine take_ (i := 0) (N := some 23) (v := ?_) (a' := ?_) #[true, false, false, false, false, false, false] rfl rfl (by kernel_rfl) (fun _ _ _ h => h) (Or.inl ⟨by rfl, ?_⟩) hHeld ?_ ?_
      rotate_left
      · rintro w' s0
        go_simp
        with_reducible rfl
      rotate_left
      · simp only [Act.put, List.setIfInBounds_toArray, List.set_cons_zero, List.set_cons_succ, i64_w, i32_w]
        rfl
      refine take_ (i := 2) (N := some 25) (v := ?_) (a' := ?_) #[true, false, true, false, false, false, false] rfl rfl (by kernel_rfl) (fun _ _ _ h => h) (Or.inl ⟨by rfl, ?_⟩) hHeld ?_ ?_
      rotate_left
      · rintro w' s0
        go_simp
        with_reducible rfl
      rotate_left
      · simp only [Act.put, List.setIfInBounds_toArray, List.set_cons_zero, List.set_cons_succ, i64_w, i32_w]
        rfl
      refine take_ (i := 3) (N := some 26) (v := ?_) (a' := ?_) #[true, false, true, true, false, false, false] rfl rfl (by kernel_rfl) (fun _ _ _ h => h) (Or.inl ⟨by rfl, ?_⟩) hHeld ?_ ?_
      rotate_left
      · rintro w' s0
        go_simp
        with_reducible rfl
      rotate_left
      · simp only [Act.put, List.setIfInBounds_toArray, List.set_cons_zero, List.set_cons_succ, i64_w, i32_w]
        rfl
      refine take_ (i := 4) (N := some 27) (v := ?_) (a' := ?_) #[true, false, true, true, true, false, false] rfl rfl (by kernel_rfl) (fun _ _ _ h => h) (Or.inl ⟨by rfl, ?_⟩) hHeld ?_ ?_
      rotate_left
      · rintro w' s0
        go_simp
        with_reducible rfl
      rotate_left
      · simp only [Act.put, List.setIfInBounds_toArray, List.set_cons_zero, List.set_cons_succ, i64_w, i32_w]
        rfl
      refine take_ (i := 5) (N := some 28) (v := ?_) (a' := ?_) #[true, false, true, true, true, true, false] rfl rfl (by kernel_rfl) (fun _ _ _ h => h) (Or.inl ⟨by rfl, ?_⟩) hHeld ?_ ?_
      rotate_left
      · rintro w' s0
        go_simp
        with_reducible rfl
      rotate_left
      · simp only [Act.put, List.setIfInBounds_toArray, List.set_cons_zero, List.set_cons_succ, i64_w, i32_w]
        rfl
      refine one_ (i := 1) (N := some 24) #[true, true, true, true, true, true, false] rfl rfl (by kernel_rfl) (by decide) (fun K hK => ?_)
      refine goes_ Try.func38 (by kernel_rfl) rfl #[.pointer (some ⟨g, 0, none⟩), .bool true] (by rfl) rfl rfl (by simp only [List.map_toArray, List.map_cons, List.map_nil]; rfl) ?_
      refine HSM.out.mono ?_
      rintro e w9 ⟨rfl, rfl⟩
      refine ⟨_, rfl, ?_⟩
      refine hK.out _ _ hHeld (fun hHeld => ?_)
      clear hK K
      refine norm_ (a' := ?_) ?_ ?_
      rotate_left
      · show Act.put _ (some 24) _ = _
        simp only [Act.put, List.setIfInBounds_toArray, List.set_cons_zero, List.set_cons_succ, i64_w, i32_w]
        rfl
      refine take_ (i := 6) (N := some 29) (v := ?_) (a' := ?_) #[true, true, true, true, true, true, true] rfl rfl (by kernel_rfl) (fun _ _ _ h => h) (Or.inl ⟨by rfl, ?_⟩) hHeld ?_ ?_
      rotate_left
      · rintro w' s0
        go_simp
        with_reducible rfl
      rotate_left
      · simp only [Act.put, List.setIfInBounds_toArray, List.set_cons_zero, List.set_cons_succ, i64_w, i32_w]
        rfl
      refine done_ (by kernel_rfl) ?_
      by_cases hgt : od < sumB L1 true
      · have HRES := Aside0.mk (show RCol _ L h 140 L1 { h1 with spent := true } from .inr ⟨hsp, h1, HMID.out, .inl ⟨by rw [← HOD.out]; exact hgt, rfl, rfl⟩⟩)
        go_wp2_with fail
        go_returns
        exact ⟨140, L1, _, _, rfl, HRES.out, HSP.out.1, HSP.out.2⟩
      · have HRES := Aside0.mk (show RCol _ L h 0 L1 h1 from .inr ⟨hsp, h1, HMID.out, .inr ⟨by rw [← HOD.out]; exact hgt, rfl, rfl⟩⟩)
        go_wp2_with fail
        go_returns
        first | exact ⟨0, L1, _, _, rfl, HRES.out, H1D.out, HST.out⟩ | exact ⟨0, rfl, L1, _, HRES.out, _, H1D.out, HST.out⟩ | exact ⟨0, rfl, L1, _, _, HRES.out, H1D.out, HST.out⟩
    | false =>
      clear HA
      go_enter Try.func21, Try.ntmps21
      go_wp2_with fail
      refine HY.out.mono ?_
      rintro e w1 ⟨rfl, L2, h2, V2, hry, hr1, st1⟩
      have hsm := (hry.sm HS.out.s).1
      have h1d := hr1.fr0 (Fr.drew [] w1)
      have HNXS := Aside0.mk (hry.room HS.out)
      have HRY := Aside0.mk hry
      have HSM1 := Aside0.mk hsm
      have HH2 := Aside0.mk h1d
      have HST2 := Aside0.mk st1.drew
      obtain ⟨od, hod⟩ : ∃ x, x = h2.old := ⟨_, rfl⟩
      have c1d : w1.drew.cell? ⟨g, 1, none⟩ = some (.int .i64 od) := by rw [hod]; exact h1d.q.c1
      have HSM := Aside0.mk (rsum_calls h1d (by have := hsm.len; omega) hsm.fine true)
      have HAL := Aside0.mk (all_calls h1d hsm)
      unfold ptr at HSM HAL
      have HODX := Aside0.mk hod
      clear HY hry hr1 st1 hsm h1d hod
      go_wp2_with fail
      refine start_ (n := 7) (S := (fun w' => w'.cell? ⟨g, 1, none⟩ = some (.int .i64 od))) (ds := []) #[false, false, false, false, false, false, false] (by kernel_rfl) rfl rfl c1d (fun hHeld => ?_)
      refine take_ (i := 0) (N := some 14) (v := ?_) (a' := ?_) #[true, false, false, false, false, false, false] rfl rfl (by kernel_rfl) (fun _ _ _ h => h) (Or.inl ⟨by rfl, ?_⟩) hHeld ?_ ?_
      rotate_left
      · rintro w' s0
        go_simp
        with_reducible rfl
      rotate_left
      · simp only [Act.put, List.setIfInBounds_toArray, List.set_cons_zero, List.set_cons_succ, i64_w, i32_w]
        rfl
      refine take_ (i := 2) (N := some 16) (v := ?_) (a' := ?_) #[true, false, true, false, false, false, false] rfl rfl (by kernel_rfl) (fun _ _ _ h => h) (Or.inl ⟨by rfl, ?_⟩) hHeld ?_ ?_
      rotate_left
      · rintro w' s0
        go_simp
        with_reducible rfl
      rotate_left
      · simp only [Act.put, List.setIfInBounds_toArray, List.set_cons_zero, List.set_cons_succ, i64_w, i32_w]
        rfl
      refine take_ (i := 3) (N := some 17) (v := ?_) (a' := ?_) #[true, false, true, true, false, false, false] rfl rfl (by kernel_rfl) (fun _ _ _ h => h) (Or.inl ⟨by rfl, ?_⟩) hHeld ?_ ?_
      rotate_left
      · rintro w' s0
        go_simp
        with_reducible rfl
      rotate_left
      · simp only [Act.put, List.setIfInBounds_toArray, List.set_cons_zero, List.set_cons_succ, i64_w, i32_w]
        rfl
      refine take_ (i := 4) (N := some 18) (v := ?_) (a' := ?_) #[true, false, true, true, true, false, false] rfl rfl (by kernel_rfl) (fun _ _ _ h => h) (Or.inl ⟨by rfl, ?_⟩) hHeld ?_ ?_
      rotate_left
      · rintro w' s0
        go_simp
        with_reducible rfl
      rotate_left
      · simp only [Act.put, List.setIfInBounds_toArray, List.set_cons_zero, List.set_cons_succ, i64_w, i32_w]
        rfl
      refine take_ (i := 5) (N := some 19) (v := ?_) (a' := ?_) #[true, false, true, true, true, true, false] rfl rfl (by kernel_rfl) (fun _ _ _ h => h) (Or.inl ⟨by rfl, ?_⟩) hHeld ?_ ?_
      rotate_left
      · rintro w' s0
        go_simp
        with_reducible rfl
      rotate_left
      · simp only [Act.put, List.setIfInBounds_toArray, List.set_cons_zero, List.set_cons_succ, i64_w, i32_w]
        rfl
      refine one_ (i := 1) (N := some 15) #[true, true, true, true, true, true, false] rfl rfl (by kernel_rfl) (by decide) (fun K hK => ?_)
      refine goes_ Try.func38 (by kernel_rfl) rfl #[.pointer (some ⟨g, 0, none⟩), .bool true] (by rfl) rfl rfl (by simp only [List.map_toArray, List.map_cons, List.map_nil]; rfl) ?_
      refine HSM.out.mono ?_
      rintro e w9 ⟨rfl, rfl⟩
      refine ⟨_, rfl, ?_⟩
      refine hK.out _ _ hHeld (fun hHeld => ?_)
      clear hK K
      refine norm_ (a' := ?_) ?_ ?_
      rotate_left
      · show Act.put _ (some 15) _ = _
        simp only [Act.put, List.setIfInBounds_toArray, List.set_cons_zero, List.set_cons_succ, i64_w, i32_w]
        rfl
      refine take_ (i := 6) (N := some 20) (v := ?_) (a' := ?_) #[true, true, true, true, true, true, true] rfl rfl (by kernel_rfl) (fun _ _ _ h => h) (Or.inl ⟨by rfl, ?_⟩) hHeld ?_ ?_
      rotate_left
      · rintro w' s0
        go_simp
        with_reducible rfl
      rotate_left
      · simp only [Act.put, List.setIfInBounds_toArray, List.set_cons_zero, List.set_cons_succ, i64_w, i32_w]
        rfl
      refine done_ (by kernel_rfl) ?_
      by_cases hgt : od < sumB L2 true
      · have HGT := Aside0.mk hgt
        go_wp2_with fail
        refine HAL.out.mono ?_
        rintro e w3 ⟨rfl, L1, h1, V1, hra, hr3, st3⟩
        have hra' := hra
        have hsm : SmR L1 h1 := (hra.sm ⟨HSM1.out, HNXS.out.1, HNXS.out.2⟩).1
        have h1d := hr3.fr0 (Fr.drew [] w3)
        have st1 : StepR g V R L V1 R L1 w w3 := HST2.out.trans st3
        clear HAL HSM hgt c1d
        obtain ⟨od, hod⟩ : ∃ x, x = h1.old := ⟨_, rfl⟩
        have c1d : w3.drew.cell? ⟨g, 1, none⟩ = some (.int .i64 od) := by rw [hod]; exact h1d.q.c1
        have HSM := Aside0.mk (rsum_calls h1d (by have := hsm.len; omega) hsm.fine true)
        unfold ptr at HSM
        have HOD := Aside0.mk hod
        have H1D := Aside0.mk h1d
        have f7 : w3.drew.frozen? ⟨g, 7, none⟩ = false := h1d.q.fz 7
        have c7 : w3.drew.cell? ⟨g, 7, none⟩ = some (.bool h1.spent) := h1d.q.c7
        have HMID := Aside0.mk (show RMid _ L h L1 h1 from .inr ⟨rfl, L2, h2, HRY.out, .inl ⟨by rw [← HODX.out]; exact HGT.out, hra⟩⟩)
        have HSP := Aside0.mk (spend h1d st1.drew)
        have HST := Aside0.mk st1.drew
        clear h1d st1 hsm hod
        go_wp2_with fail
        refine start_ (n := 7) (S := (fun w' => w'.cell? ⟨g, 1, none⟩ = some (.int .i64 od))) (ds := []) #[false, false, false, false, false, false, false] (by kernel_rfl) rfl rfl c1d (fun hHeld => ?_)
        refine take_ (i := 0) (N := some 23) (v := ?_) (a' := ?_) #[true, false, false, false, false, false, false] rfl rfl (by kernel_rfl) (fun _ _ _ h => h) (Or.inl ⟨by rfl, ?_⟩) hHeld ?_ ?_
        rotate_left
        · rintro w' s0
          go_simp
          with_reducible rfl
        rotate_left
        · simp only [Act.put, List.setIfInBounds_toArray, List.set_cons_zero, List.set_cons_succ, i64_w, i32_w]
          rfl
        refine take_ (i := 2) (N := some 25) (v := ?_) (a' := ?_) #[true, false, true, false, false, false, false] rfl rfl (by kernel_rfl) (fun _ _ _ h => h) (Or.inl ⟨by rfl, ?_⟩) hHeld ?_ ?_
        rotate_left
        · rintro w' s0
          go_simp
          with_reducible rfl
        rotate_left
        · simp only [Act.put, List.setIfInBounds_toArray, List.set_cons_zero, List.set_cons_succ, i64_w, i32_w]
          rfl
        refine take_ (i := 3) (N := some 26) (v := ?_) (a' := ?_) #[true, false, true, true, false, false, false] rfl rfl (by kernel_rfl) (fun _ _ _ h => h) (Or.inl ⟨by rfl, ?_⟩) hHeld ?_ ?_
        rotate_left
        · rintro w' s0
          go_simp
          with_reducible rfl
        rotate_left
        · simp only [Act.put, List.setIfInBounds_toArray, List.set_cons_zero, List.set_cons_succ, i64_w, i32_w]
          rfl
        refine take_ (i := 4) (N := some 27) (v := ?_) (a' := ?_) #[true, false, true, true, true, false, false] rfl rfl (by kernel_rfl) (fun _ _ _ h => h) (Or.inl ⟨by rfl, ?_⟩) hHeld ?_ ?_
        rotate_left
        · rintro w' s0
          go_simp
          with_reducible rfl
        rotate_left
        · simp only [Act.put, List.setIfInBounds_toArray, List.set_cons_zero, List.set_cons_succ, i64_w, i32_w]
          rfl
        refine take_ (i := 5) (N := some 28) (v := ?_) (a' := ?_) #[true, false, true, true, true, true, false] rfl rfl (by kernel_rfl) (fun _ _ _ h => h) (Or.inl ⟨by rfl, ?_⟩) hHeld ?_ ?_
        rotate_left
        · rintro w' s0
          go_simp
          with_reducible rfl
        rotate_left
        · simp only [Act.put, List.setIfInBounds_toArray, List.set_cons_zero, List.set_cons_succ, i64_w, i32_w]
          rfl
        refine one_ (i := 1) (N := some 24) #[true, true, true, true, true, true, false] rfl rfl (by kernel_rfl) (by decide) (fun K hK => ?_)
        refine goes_ Try.func38 (by kernel_rfl) rfl #[.pointer (some ⟨g, 0, none⟩), .bool true] (by rfl) rfl rfl (by simp only [List.map_toArray, List.map_cons, List.map_nil]; rfl) ?_
        refine HSM.out.mono ?_
        rintro e w9 ⟨rfl, rfl⟩
        refine ⟨_, rfl, ?_⟩
        refine hK.out _ _ hHeld (fun hHeld => ?_)
        clear hK K
        refine norm_ (a' := ?_) ?_ ?_
        rotate_left
        · show Act.put _ (some 24) _ = _
          simp only [Act.put, List.setIfInBounds_toArray, List.set_cons_zero, List.set_cons_succ, i64_w, i32_w]
          rfl
        refine take_ (i := 6) (N := some 29) (v := ?_) (a' := ?_) #[true, true, true, true, true, true, true] rfl rfl (by kernel_rfl) (fun _ _ _ h => h) (Or.inl ⟨by rfl, ?_⟩) hHeld ?_ ?_
        rotate_left
        · rintro w' s0
          go_simp
          with_reducible rfl
        rotate_left
        · simp only [Act.put, List.setIfInBounds_toArray, List.set_cons_zero, List.set_cons_succ, i64_w, i32_w]
          rfl
        refine done_ (by kernel_rfl) ?_
        by_cases hgt : od < sumB L1 true
        · have HRES := Aside0.mk (show RCol _ L h 140 L1 { h1 with spent := true } from .inr ⟨hsp, h1, HMID.out, .inl ⟨by rw [← HOD.out]; exact hgt, rfl, rfl⟩⟩)
          go_wp2_with fail
          go_returns
          exact ⟨140, L1, _, _, rfl, HRES.out, HSP.out.1, HSP.out.2⟩
        · have HRES := Aside0.mk (show RCol _ L h 0 L1 h1 from .inr ⟨hsp, h1, HMID.out, .inr ⟨by rw [← HOD.out]; exact hgt, rfl, rfl⟩⟩)
          go_wp2_with fail
          go_returns
          first | exact ⟨0, L1, _, _, rfl, HRES.out, H1D.out, HST.out⟩ | exact ⟨0, rfl, L1, _, HRES.out, _, H1D.out, HST.out⟩ | exact ⟨0, rfl, L1, _, _, HRES.out, H1D.out, HST.out⟩
      · have HGT := Aside0.mk hgt
        go_wp2_with fail
        have h1d := HH2.out.fr0 (Fr.drew [] w1.drew)
        have st1 := HST2.out
        have hsm := HSM1.out
        clear HAL HSM hgt c1d
        obtain ⟨w3, hw3⟩ : ∃ x, x = w1.drew := ⟨_, rfl⟩
        rw [← hw3] at h1d st1 ⊢
        clear hw3
        obtain ⟨L1, hL1⟩ : ∃ x, x = L2 := ⟨_, rfl⟩
        obtain ⟨h1, hh1⟩ : ∃ x, x = h2 := ⟨_, rfl⟩
        rw [← hL1, ← hh1] at h1d hsm
        rw [← hL1] at st1
        have HEQ := Aside0.mk (And.intro hL1 hh1)
        clear hL1 hh1
        obtain ⟨od, hod⟩ : ∃ x, x = h1.old := ⟨_, rfl⟩
        have c1d : w3.drew.cell? ⟨g, 1, none⟩ = some (.int .i64 od) := by rw [hod]; exact h1d.q.c1
        have HSM := Aside0.mk (rsum_calls h1d (by have := hsm.len; omega) hsm.fine true)
        unfold ptr at HSM
        have HOD := Aside0.mk hod
        have H1D := Aside0.mk h1d
        have f7 : w3.drew.frozen? ⟨g, 7, none⟩ = false := h1d.q.fz 7
        have c7 : w3.drew.cell? ⟨g, 7, none⟩ = some (.bool h1.spent) := h1d.q.c7
        have HMID := Aside0.mk (show RMid _ L h L1 h1 from .inr ⟨rfl, L2, h2, HRY.out, .inr ⟨by have := HGT.out; rw [← HODX.out]; omega, HEQ.out.1, HEQ.out.2⟩⟩)
        have HSP := Aside0.mk (spend h1d st1.drew)
        have HST := Aside0.mk st1.drew
        clear h1d st1 hsm hod
        go_wp2_with fail
        refine start_ (n := 7) (S := (fun w' => w'.cell? ⟨g, 1, none⟩ = some (.int .i64 od))) (ds := []) #[false, false, false, false, false, false, false] (by kernel_rfl) rfl rfl c1d (fun hHeld => ?_)
        refine take_ (i := 0) (N := some 23) (v := ?_) (a' := ?_) #[true, false, false, false, false, false, false] rfl rfl (by kernel_rfl) (fun _ _ _ h => h) (Or.inl ⟨by rfl, ?_⟩) hHeld ?_ ?_
        rotate_left
        · rintro w' s0
          go_simp
          with_reducible rfl
        rotate_left
        · simp only [Act.put, List.setIfInBounds_toArray, List.set_cons_zero, List.set_cons_succ, i64_w, i32_w]
          rfl
        refine take_ (i := 2) (N := some 25) (v := ?_) (a' := ?_) #[true, false, true, false, false, false, false] rfl rfl (by kernel_rfl) (fun _ _ _ h => h) (Or.inl ⟨by rfl, ?_⟩) hHeld ?_ ?_
        rotate_left
        · rintro w' s0
          go_simp
          with_reducible rfl
        rotate_left
        · simp only [Act.put, List.setIfInBounds_toArray, List.set_cons_zero, List.set_cons_succ, i64_w, i32_w]
          rfl
        refine take_ (i := 3) (N := some 26) (v := ?_) (a' := ?_) #[true, false, true, true, false, false, false] rfl rfl (by kernel_rfl) (fun _ _ _ h => h) (Or.inl ⟨by rfl, ?_⟩) hHeld ?_ ?_
        rotate_left
        · rintro w' s0
          go_simp
          with_reducible rfl
        rotate_left
        · simp only [Act.put, List.setIfInBounds_toArray, List.set_cons_zero, List.set_cons_succ, i64_w, i32_w]
          rfl
        refine take_ (i := 4) (N := some 27) (v := ?_) (a' := ?_) #[true, false, true, true, true, false, false] rfl rfl (by kernel_rfl) (fun _ _ _ h => h) (Or.inl ⟨by rfl, ?_⟩) hHeld ?_ ?_
        rotate_left
        · rintro w' s0
          go_simp
          with_reducible rfl
        rotate_left
        · simp only [Act.put, List.setIfInBounds_toArray, List.set_cons_zero, List.set_cons_succ, i64_w, i32_w]
          rfl
        refine take_ (i := 5) (N := some 28) (v := ?_) (a' := ?_) #[true, false, true, true, true, true, false] rfl rfl (by kernel_rfl) (fun _ _ _ h => h) (Or.inl ⟨by rfl, ?_⟩) hHeld ?_ ?_
        rotate_left
        · rintro w' s0
          go_simp
          with_reducible rfl
        rotate_left
        · simp only [Act.put, List.setIfInBounds_toArray, List.set_cons_zero, List.set_cons_succ, i64_w, i32_w]
          rfl
        refine one_ (i := 1) (N := some 24) #[true, true, true, true, true, true, false] rfl rfl (by kernel_rfl) (by decide) (fun K hK => ?_)
        refine goes_ Try.func38 (by kernel_rfl) rfl #[.pointer (some ⟨g, 0, none⟩), .bool true] (by rfl) rfl rfl (by simp only [List.map_toArray, List.map_cons, List.map_nil]; rfl) ?_
        refine HSM.out.mono ?_
        rintro e w9 ⟨rfl, rfl⟩
        refine ⟨_, rfl, ?_⟩
        refine hK.out _ _ hHeld (fun hHeld => ?_)
        clear hK K
        refine norm_ (a' := ?_) ?_ ?_
        rotate_left
        · show Act.put _ (some 24) _ = _
          simp only [Act.put, List.setIfInBounds_toArray, List.set_cons_zero, List.set_cons_succ, i64_w, i32_w]
          rfl
        refine take_ (i := 6) (N := some 29) (v := ?_) (a' := ?_) #[true, true, true, true, true, true, true] rfl rfl (by kernel_rfl) (fun _ _ _ h => h) (Or.inl ⟨by rfl, ?_⟩) hHeld ?_ ?_
        rotate_left
        · rintro w' s0
          go_simp
          with_reducible rfl
        rotate_left
        · simp only [Act.put, List.setIfInBounds_toArray, List.set_cons_zero, List.set_cons_succ, i64_w, i32_w]
          rfl
        refine done_ (by kernel_rfl) ?_
        by_cases hgt : od < sumB L1 true
        · have HRES := Aside0.mk (show RCol _ L h 140 L1 { h1 with spent := true } from .inr ⟨hsp, h1, HMID.out, .inl ⟨by rw [← HOD.out]; exact hgt, rfl, rfl⟩⟩)
          go_wp2_with fail
          go_returns
          exact ⟨140, L1, _, _, rfl, HRES.out, HSP.out.1, HSP.out.2⟩
        · have HRES := Aside0.mk (show RCol _ L h 0 L1 h1 from .inr ⟨hsp, h1, HMID.out, .inr ⟨by rw [← HOD.out]; exact hgt, rfl, rfl⟩⟩)
          go_wp2_with fail
          go_returns
          first | exact ⟨0, L1, _, _, rfl, HRES.out, H1D.out, HST.out⟩ | exact ⟨0, rfl, L1, _, HRES.out, _, H1D.out, HST.out⟩ | exact ⟨0, rfl, L1, _, _, HRES.out, H1D.out, HST.out⟩
end
end Go.Proofs.Ytlghnldlkbgajaa.S
