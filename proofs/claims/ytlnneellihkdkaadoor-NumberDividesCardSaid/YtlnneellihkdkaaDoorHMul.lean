/- number.Mul. -/
import Derived.Test.YtlnneellihkdkaaDoorDx19
import Derived.Test.YtlnneellihkdkaaDoorHSub
import Derived.Test.YtlnneellihkdkaaDoorHNumA
import Derived.Deep.RegionHeld3
namespace Go.Proofs.YtlnneellihkdkaaDoor.D
open Go Go.Proofs Go.RowKit Go.Shelf Go.Proofs.YtlnneellihkdkaaDoorW.PrintWords Go.Proofs.YtlnneellihkdkaaDoorW.PrintLast Go.Proofs.YtlnneellihkdkaaDoorW.PrintMore
set_option linter.unusedVariables false
set_option linter.unusedSimpArgs false

theorem sv_mul {a b : List Int} (r : List Int) (x y : Bool) (h : vB G r = vB G a * vB G b) : sv G r (x != y) = sv G a x * sv G b y := by
  cases x <;> cases y <;> simp [sv, h, Int.neg_mul, Int.mul_neg]
theorem leaves_congr {fn : Func} (hres : fn.results = #[.cell 4 9, .cell 5 27]) {t t' : Array Value} (h4 : t.getD 4 undef = t'.getD 4 undef) (h5 : t.getD 5 undef = t'.getD 5 undef) {R : Ending → World → Prop} : ∀ (ds : List Deferred) (u : FrameMode) (w : World), Leaves Tryd.prog fn t R ds u w → Leaves Tryd.prog fn t' R ds u w := by
  have hr : results fn t = results fn t' := by
    have h4' : t[4]?.getD undef = t'[4]?.getD undef := by simpa using h4
    have h5' : t[5]?.getD undef = t'[5]?.getD undef := by simpa using h5
    simp only [results, hres]
    simp [h4', h5']
  intro ds
  induction ds with
  | nil =>
    intro u w h
    cases u with
    | returning => unfold Leaves at h ⊢; rw [← hr]; exact h
    | panicking c => exact h
    | run => exact h
  | cons d ds ih =>
    rintro u w ⟨hu, fv, cap, f, args, h1, h2, h3⟩
    refine ⟨hu, fv, cap, f, args, h1, h2, h3.mono ?_⟩
    intro e u' w' h
    cases e with
    | returned v => exact ih _ _ h
    | panicked c => exact ih _ _ h
    | outgrown => exact h
theorem put_getD (a : Act) (d n : Nat) (v : Value) (h : d ≠ n) : (a.put (some d) v).tmps.getD n undef = a.tmps.getD n undef := by
  simp [Act.put, Array.getElem?_setIfInBounds, h]
theorem hq16 {R : Ending → World → Prop} (d : Nat) (h4 : d ≠ 4) (h5 : d ≠ 5) (c : List PanicEntry) (a : Act) (w : World) (v : Value) (h : bodyPostD Tryd.prog Tryd.f16 R (.panic c) (a.put (some d) v) w) : bodyPostD Tryd.prog Tryd.f16 R (.panic c) a w :=
  leaves_congr rfl (put_getD a d 4 v h4) (put_getD a d 5 v h5) _ _ _ h

theorem S4 {W : World} {g : Nat} {u0 u1 v0 v1 : Value} (hx : W.heap[g]? = some (.cells #[u0, u1] 45 (0, 0))) (hy : W.heap[g + 1]? = some (.cells #[v0, v1] 45 (0, 0))) :
    W.cell? ⟨g, 0, none⟩ = some u0 ∧ W.cell? ⟨g, 1, none⟩ = some u1 ∧ W.cell? ⟨g + 1, 0, none⟩ = some v0 ∧ W.cell? ⟨g + 1, 1, none⟩ = some v1 := ⟨blk_cell hx 0, blk_cell hx 1, blk_cell hy 0, blk_cell hy 1⟩

set_option maxRecDepth 100000 in
set_option maxHeartbeats 2000000 in
theorem mul_calls (a b : ByteArray) (ha : a.size ≤ 9223372036854775807) (hb : b.size ≤ 9223372036854775807) (w : World) (hL : LaidW w) :
    Calls Tryd.prog 16 #[.string a, .string b] w fun e w' => e = .returned (ansV (opO (· * ·) a b)) ∧ Below w.heap.size w w' := by
  have HL := Aside0.mk hL
  clear hL
  cases hca : N.canU a.data.toList
  · go_enter_defers Tryd.func16, Tryd.ntmps16
    go_wp2_with (go_at_call 33; with_reducible refine (parse_bad a ha hca _).mono ?_; rintro e w' ⟨rfl, hB⟩)
    obtain ⟨hs, he, hBw⟩ := door_new hB
    rw [opO_none_l hca]
    exact door_panic _ rfl _ w.heap.size rfl rfl _ hs he 90 _ (fun W' hW => ⟨rfl, hBw.trans hW⟩)
  cases hcb : N.canU b.data.toList
  · go_enter_defers Tryd.func16, Tryd.ntmps16
    go_wp2_with (first
      | (go_at_call 33; with_reducible refine (parse_bad b hb hcb _).mono ?_; rintro e w' ⟨rfl, hB2⟩)
      | (go_at_call 33; with_reducible refine (parse_ok a ha hca _).mono ?_; rintro e w' ⟨A, c, rfl, hV, hB⟩))
    obtain ⟨hs, he, hBw⟩ := door_new (hB.trans (hB2.mono hB.size))
    rw [opO_none_r hcb]
    exact door_panic _ rfl _ w.heap.size rfl rfl _ hs he 90 _ (fun W' hW => ⟨rfl, hBw.trans hW⟩)
  rw [opO_some hca hcb]
  obtain ⟨la1, la2, la3, la4⟩ := limbs_val hca
  obtain ⟨lb1, lb2, lb3, lb4⟩ := limbs_val hcb
  obtain ⟨r, hEv, hr1, hr3, hv2⟩ := times_prog_ev (limbsU a.data.toList) (limbsU b.data.toList) la2 lb2 (by omega) (by omega)
  have hr2 := sv_mul r (negU a.data.toList) (negU b.data.toList) hv2
  rw [sv_val hca, sv_val hcb] at hr2
  obtain ⟨k, hk⟩ := hEv.rounds
  have HK := Aside0.mk hk
  have HR := Aside0.mk hr1
  have HR3 := Aside0.mk (show r.length ≤ 1000 by omega)
  clear hEv hk hr3
  by_cases h2 : (Lib.decDigits (N.valU a.data.toList * N.valU b.data.toList).natAbs).length ≤ 200
  · have hnum : numE (sv G r (!(negU a.data.toList == negU b.data.toList))) = .returned (.string (baU (Lib.itoa (N.valU a.data.toList * N.valU b.data.toList)))) := by rw [show (!(negU a.data.toList == negU b.data.toList)) = (negU a.data.toList != negU b.data.toList) from rfl, hr2]; unfold numE; rw [if_pos h2]
    have hans : ansV (some (N.valU a.data.toList * N.valU b.data.toList)) = .tuple #[.string (baU (Lib.itoa (N.valU a.data.toList * N.valU b.data.toList))), .int .i64 0] := ansV_ok h2
    rw [hans]
    generalize Lib.itoa (N.valU a.data.toList * N.valU b.data.toList) = it at *
    go_enter_defers Tryd.func16, Tryd.ntmps16
    go_wp2_with (first
      | (go_at_call 33; with_reducible refine (parse_ok a ha hca _).mono ?_; rintro e w1 ⟨A, c, rfl, hV, hB⟩)
      | (go_at_call 33; with_reducible refine (parse_ok b hb hcb _).mono ?_; rintro e w2 ⟨A2, c2, rfl, hV2, hB2⟩))
    have hb0 := two_new w2 (.cells #[.slice A (limbsU a.data.toList).length c, .bool (negU a.data.toList)] 45) (.cells #[.slice A2 (limbsU b.data.toList).length c2, .bool (negU b.data.toList)] 45)
    have hx : ((w2.alloc (.cells #[.slice A (limbsU a.data.toList).length c, .bool (negU a.data.toList)] 45)).alloc (.cells #[.slice A2 (limbsU b.data.toList).length c2, .bool (negU b.data.toList)] 45)).heap[w2.heap.size]? = some (.cells #[.slice A (limbsU a.data.toList).length c, .bool (negU a.data.toList)] 45 (0, 0)) := blk_alloc (World.alloc_heap_new w2 _) _
    have hy : ((w2.alloc (.cells #[.slice A (limbsU a.data.toList).length c, .bool (negU a.data.toList)] 45)).alloc (.cells #[.slice A2 (limbsU b.data.toList).length c2, .bool (negU b.data.toList)] 45)).heap[w2.heap.size + 1]? = some (.cells #[.slice A2 (limbsU b.data.toList).length c2, .bool (negU b.data.toList)] 45 (0, 0)) := by
      have := World.alloc_heap_new (w2.alloc (.cells #[.slice A (limbsU a.data.toList).length c, .bool (negU a.data.toList)] 45)) (.cells #[.slice A2 (limbsU b.data.toList).length c2, .bool (negU b.data.toList)] 45)
      simpa using this
    generalize ((w2.alloc (.cells #[.slice A (limbsU a.data.toList).length c, .bool (negU a.data.toList)] 45)).alloc (.cells #[.slice A2 (limbsU b.data.toList).length c2, .bool (negU b.data.toList)] 45)) = W0 at *
    have HX := Aside0.mk (blk_drew hx)
    have HY := Aside0.mk (blk_drew hy)
    have HVA := Aside0.mk (Kd.V_drew (Kd.V_below (Kd.V_below hV hB2) hb0))
    have HVB := Aside0.mk (Kd.V_drew (Kd.V_below hV2 hb0))
    have HBW := Aside0.mk (below_drew1 ((hB.trans (hB2.mono hB.size)).trans (hb0.mono (Nat.le_trans hB.size hB2.size))))
    have hl1 := (Kd.V_reads' hV).2.1
    have hl2 := (Kd.V_reads' hV2).2.1
    have hsz1 := hB.size
    have hsz2 := hB2.size
    simp only [World.size_alloc] at hsz1
    have n1 : w2.heap.size ≠ w.heap.size := by omega
    have n2 : w2.heap.size + 1 ≠ w.heap.size := by omega
    have n3 : w2.heap.size ≠ w.heap.size + 1 := by omega
    have n4 : w2.heap.size + 1 ≠ w.heap.size + 1 := by omega
    clear hx hy hV hV2 hb0 hB hB2 hsz1 hsz2
    go_region_held3 (fun w' => w'.cell? ⟨w2.heap.size, 0, none⟩ = some (.slice A (limbsU a.data.toList).length c) ∧ w'.cell? ⟨w2.heap.size, 1, none⟩ = some (.bool (negU a.data.toList)) ∧ w'.cell? ⟨w2.heap.size + 1, 0, none⟩ = some (.slice A2 (limbsU b.data.toList).length c2) ∧ w'.cell? ⟨w2.heap.size + 1, 1, none⟩ = some (.bool (negU b.data.toList))) (first | with_reducible exact S4 HX.out HY.out | with_reducible exact S4 HX3.out HY3.out | with_reducible exact S4 HX4.out HY4.out | with_reducible exact S4 (blk_far HX4.out n1 _) (blk_far HY4.out n2 _) | with_reducible exact S4 (blk_far (blk_far HX4.out n1 _) n3 _) (blk_far (blk_far HY4.out n2 _) n4 _))
      (first
      | (go_at_call 35; refine (number_times.calls k A c _ A2 c2 _ r _ (Kd.V_reads' HVA.out).2.2 hl1 (Kd.V_reads' HVB.out).2.2 hl2 HK.out).mono ?_; rintro e w3 ⟨v0, rfl, hR3, hB3⟩; obtain ⟨A3, c3, rfl⟩ := Kd.R_slice hR3
         have hB03 := HBW.out.trans (hB3.mono HBW.out.size)
         have hLw := HL.out.below (door_new hB03).2.2 (Nat.le_refl _)
         have HX3 := Aside0.mk (blk_below HX.out hB3)
         have HY3 := Aside0.mk (blk_below HY.out hB3))
      | (go_at_call 34; refine (text_R r _ HR.out HR3.out w3 hLw (Kd.R_V (base' := 0) hR3)).mono ?_; rintro e w4 ⟨he4, hB4⟩; rw [hnum] at he4; subst he4
         have hd := door_new (hB03.trans (hB4.mono hB03.size))
         have HX4 := Aside0.mk (blk_below HX3.out hB4)
         have HY4 := Aside0.mk (blk_below HY3.out hB4)
         have c0 := blk_cell hd.1 0
         have c1 := blk_cell hd.2.1 0
         have f0 := blk_frozen hd.1 0
         have f1 := blk_frozen hd.2.1 0
         simp only [List.getElem?_toArray, List.getElem?_cons_zero] at c0 c1))
    all_goals go_wp2
    exact door_ok _ rfl _ w.heap.size rfl rfl _ _ _ (blk_far (set_cell_at hd.1) (by simp) _) (set_cell_at (blk_far hd.2.1 (by simp) _)) _ ⟨rfl, (hd.2.2.setCell (p := ⟨w.heap.size, 0, none⟩) (Nat.le_refl _) _).setCell (p := ⟨w.heap.size + 1, 0, none⟩) (Nat.le_succ _) _⟩
  · have hnum : numE (sv G r (!(negU a.data.toList == negU b.data.toList))) = bigE := by rw [show (!(negU a.data.toList == negU b.data.toList)) = (negU a.data.toList != negU b.data.toList) from rfl, hr2]; unfold numE; rw [if_neg h2]
    rw [ansV_big h2]
    go_enter_defers Tryd.func16, Tryd.ntmps16
    go_wp2_with (first
      | (go_at_call 33; with_reducible refine (parse_ok a ha hca _).mono ?_; rintro e w1 ⟨A, c, rfl, hV, hB⟩)
      | (go_at_call 33; with_reducible refine (parse_ok b hb hcb _).mono ?_; rintro e w2 ⟨A2, c2, rfl, hV2, hB2⟩))
    have hb0 := two_new w2 (.cells #[.slice A (limbsU a.data.toList).length c, .bool (negU a.data.toList)] 45) (.cells #[.slice A2 (limbsU b.data.toList).length c2, .bool (negU b.data.toList)] 45)
    have hx : ((w2.alloc (.cells #[.slice A (limbsU a.data.toList).length c, .bool (negU a.data.toList)] 45)).alloc (.cells #[.slice A2 (limbsU b.data.toList).length c2, .bool (negU b.data.toList)] 45)).heap[w2.heap.size]? = some (.cells #[.slice A (limbsU a.data.toList).length c, .bool (negU a.data.toList)] 45 (0, 0)) := blk_alloc (World.alloc_heap_new w2 _) _
    have hy : ((w2.alloc (.cells #[.slice A (limbsU a.data.toList).length c, .bool (negU a.data.toList)] 45)).alloc (.cells #[.slice A2 (limbsU b.data.toList).length c2, .bool (negU b.data.toList)] 45)).heap[w2.heap.size + 1]? = some (.cells #[.slice A2 (limbsU b.data.toList).length c2, .bool (negU b.data.toList)] 45 (0, 0)) := by
      have := World.alloc_heap_new (w2.alloc (.cells #[.slice A (limbsU a.data.toList).length c, .bool (negU a.data.toList)] 45)) (.cells #[.slice A2 (limbsU b.data.toList).length c2, .bool (negU b.data.toList)] 45)
      simpa using this
    generalize ((w2.alloc (.cells #[.slice A (limbsU a.data.toList).length c, .bool (negU a.data.toList)] 45)).alloc (.cells #[.slice A2 (limbsU b.data.toList).length c2, .bool (negU b.data.toList)] 45)) = W0 at *
    have HX := Aside0.mk (blk_drew hx)
    have HY := Aside0.mk (blk_drew hy)
    have HVA := Aside0.mk (Kd.V_drew (Kd.V_below (Kd.V_below hV hB2) hb0))
    have HVB := Aside0.mk (Kd.V_drew (Kd.V_below hV2 hb0))
    have HBW := Aside0.mk (below_drew1 ((hB.trans (hB2.mono hB.size)).trans (hb0.mono (Nat.le_trans hB.size hB2.size))))
    have hl1 := (Kd.V_reads' hV).2.1
    have hl2 := (Kd.V_reads' hV2).2.1
    have hsz1 := hB.size
    have hsz2 := hB2.size
    simp only [World.size_alloc] at hsz1
    have n1 : w2.heap.size ≠ w.heap.size := by omega
    have n2 : w2.heap.size + 1 ≠ w.heap.size := by omega
    have n3 : w2.heap.size ≠ w.heap.size + 1 := by omega
    have n4 : w2.heap.size + 1 ≠ w.heap.size + 1 := by omega
    clear hx hy hV hV2 hb0 hB hB2 hsz1 hsz2
    refine wp_region_held_drew (S := (fun w' => w'.cell? ⟨w2.heap.size, 0, none⟩ = some (.slice A (limbsU a.data.toList).length c) ∧ w'.cell? ⟨w2.heap.size, 1, none⟩ = some (.bool (negU a.data.toList)) ∧ w'.cell? ⟨w2.heap.size + 1, 0, none⟩ = some (.slice A2 (limbsU b.data.toList).length c2) ∧ w'.cell? ⟨w2.heap.size + 1, 1, none⟩ = some (.bool (negU b.data.toList)))) (by kernel_rfl) (by (try dsimp only); exact S4 HX.out HY.out) (fun hHeld => ?_)
    refine wpAnyH_take (i := 0) (v := ?_) rfl (by kernel_rfl) (by kernel_rfl) (by kernel_rfl) (fun c a w h => hq16 12 (by decide) (by decide) c a w _ h) (Or.inl ⟨by rfl, ?_⟩) (by assumption) ?_
    rotate_left
    · intro w hSw; (try dsimp only at hSw); go_simp
      all_goals with_reducible rfl
    try simp only [Act.put, List.setIfInBounds_toArray, List.set_cons_zero, List.set_cons_succ]
    refine wpAnyH_take (i := 1) (v := ?_) rfl (by kernel_rfl) (by kernel_rfl) (by kernel_rfl) (fun c a w h => hq16 13 (by decide) (by decide) c a w _ h) (Or.inl ⟨by rfl, ?_⟩) (by assumption) ?_
    rotate_left
    · intro w hSw; (try dsimp only at hSw); go_simp
      all_goals with_reducible rfl
    try simp only [Act.put, List.setIfInBounds_toArray, List.set_cons_zero, List.set_cons_succ]
    refine wpAnyH_take (i := 2) (v := ?_) rfl (by kernel_rfl) (by kernel_rfl) (by kernel_rfl) (fun c a w h => hq16 14 (by decide) (by decide) c a w _ h) (Or.inl ⟨by rfl, ?_⟩) (by assumption) ?_
    rotate_left
    · intro w hSw; (try dsimp only at hSw); go_simp
      all_goals with_reducible rfl
    try simp only [Act.put, List.setIfInBounds_toArray, List.set_cons_zero, List.set_cons_succ]
    refine wpAnyH_take (i := 3) (v := ?_) rfl (by kernel_rfl) (by kernel_rfl) (by kernel_rfl) (fun c a w h => hq16 15 (by decide) (by decide) c a w _ h) (Or.inl ⟨by rfl, ?_⟩) (by assumption) ?_
    rotate_left
    · intro w hSw; (try dsimp only at hSw); go_simp
      all_goals with_reducible rfl
    try simp only [Act.put, List.setIfInBounds_toArray, List.set_cons_zero, List.set_cons_succ]
    refine wpAnyH_take (i := 5) (v := ?_) rfl (by kernel_rfl) (by kernel_rfl) (by kernel_rfl) (fun c a w h => hq16 17 (by decide) (by decide) c a w _ h) (Or.inl ⟨by rfl, ?_⟩) (by assumption) ?_
    rotate_left
    · intro w hSw; (try dsimp only at hSw); go_simp
      all_goals with_reducible rfl
    try simp only [Act.put, List.setIfInBounds_toArray, List.set_cons_zero, List.set_cons_succ]
    refine wpAnyH_take (i := 6) (v := ?_) rfl (by kernel_rfl) (by kernel_rfl) (by kernel_rfl) (fun c a w h => hq16 18 (by decide) (by decide) c a w _ h) (Or.inl ⟨by rfl, ?_⟩) (by assumption) ?_
    rotate_left
    · intro w hSw; (try dsimp only at hSw); go_simp
      all_goals with_reducible rfl
    try simp only [Act.put, List.setIfInBounds_toArray, List.set_cons_zero, List.set_cons_succ]
    refine wpAnyH_take (i := 7) (v := ?_) rfl (by kernel_rfl) (by kernel_rfl) (by kernel_rfl) (fun c a w h => hq16 19 (by decide) (by decide) c a w _ h) (Or.inl ⟨by rfl, ?_⟩) (by assumption) ?_
    rotate_left
    · intro w hSw; (try dsimp only at hSw); go_simp
      all_goals with_reducible rfl
    try simp only [Act.put, List.setIfInBounds_toArray, List.set_cons_zero, List.set_cons_succ]
    refine wpAnyH_take (i := 8) (v := ?_) rfl (by kernel_rfl) (by kernel_rfl) (by kernel_rfl) (fun c a w h => hq16 20 (by decide) (by decide) c a w _ h) (Or.inl ⟨by rfl, ?_⟩) (by assumption) ?_
    rotate_left
    · intro w hSw; (try dsimp only at hSw); go_simp
      all_goals with_reducible rfl
    try simp only [Act.put, List.setIfInBounds_toArray, List.set_cons_zero, List.set_cons_succ]
    refine wpAnyH_take (i := 9) (v := ?_) rfl (by kernel_rfl) (by kernel_rfl) (by kernel_rfl) (fun c a w h => hq16 21 (by decide) (by decide) c a w _ h) (Or.inl ⟨by rfl, ?_⟩) (by assumption) ?_
    rotate_left
    · intro w hSw; (try dsimp only at hSw); go_simp
      all_goals with_reducible rfl
    try simp only [Act.put, List.setIfInBounds_toArray, List.set_cons_zero, List.set_cons_succ]
    refine wpAnyH_ready (rs := [4]) (by kernel_rfl) (by simp) ?_
    refine AllReadyH.cons rfl (fun K hK => ?_) AllReadyH.nil
    go_simp
    go_at_call 35
    refine (number_times.calls k A c _ A2 c2 _ r _ (Kd.V_reads' HVA.out).2.2 hl1 (Kd.V_reads' HVB.out).2.2 hl2 HK.out).mono ?_
    rintro e w3 ⟨v0, rfl, hR3, hB3⟩
    obtain ⟨A3, c3, rfl⟩ := Kd.R_slice hR3
    have hB03 := HBW.out.trans (hB3.mono HBW.out.size)
    have hLw := HL.out.below (door_new hB03).2.2 (Nat.le_refl _)
    refine hK.out _ _ (S4 (blk_below HX.out hB3) (blk_below HY.out hB3)) (fun hHeld3 => ?_)
    clear hK K hHeld
    try simp only [Act.put, List.setIfInBounds_toArray, List.set_cons_zero, List.set_cons_succ]
    refine wpAnyH_take (i := 10) (v := ?_) rfl (by kernel_rfl) (by kernel_rfl) (by kernel_rfl) (fun c a w h => hq16 22 (by decide) (by decide) c a w _ h) (Or.inl ⟨by rfl, ?_⟩) (by assumption) ?_
    rotate_left
    · intro w hSw; (try dsimp only at hSw); go_simp
      all_goals with_reducible rfl
    try simp only [Act.put, List.setIfInBounds_toArray, List.set_cons_zero, List.set_cons_succ]
    refine wpAnyH_ready (rs := [11]) (by kernel_rfl) (by simp) ?_
    refine AllReadyH.cons rfl (fun K hK => ?_) AllReadyH.nil
    go_simp
    go_at_call 34
    refine (text_R r _ HR.out HR3.out w3 hLw (Kd.R_V (base' := 0) hR3)).mono ?_
    rintro e w4 ⟨he4, hB4⟩
    rw [hnum] at he4
    subst he4
    obtain ⟨hs, he, hBw⟩ := door_new (hB03.trans (hB4.mono hB03.size))
    exact door_panic _ rfl _ w.heap.size rfl rfl _ hs he 91 _ (fun W' hW => ⟨rfl, hBw.trans hW⟩)
end Go.Proofs.YtlnneellihkdkaaDoor.D
