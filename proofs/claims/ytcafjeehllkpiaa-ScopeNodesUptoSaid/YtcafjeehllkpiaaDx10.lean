-- written by wip/pr.py (the kit's print, with hand-proved functions beside it) for this claim
import Derived.Test.YtcafjeehllkpiaaDx0
import Derived.Test.YtcafjeehllkpiaaDx9
namespace Go.Proofs.Ytcafjeehllkpiaa.D
open Go.RowKit Go.Proofs.YtcafjeehllkpiaaW.PrintWords Go.Proofs.YtcafjeehllkpiaaW.PrintLast Go.Proofs.YtcafjeehllkpiaaW.PrintMore
attribute [local go_sem] max2_int min2_int max_two min_two max_three min_three max_four min_four   -- for this text's walks alone
set_option linter.unusedVariables false
set_option linter.unusedSimpArgs false

/-! ### rostrumref12_Free: function 6 -/
mutual
def rostrumref12_Free.l0 : Nat → List ByteArray → List (S34) → Int → Int → Option (List ByteArray)
  | 0, _, _, _, _ => none
  | k + 1, x3, x9, x10, x11 => if x11 < x10 then (if 0 ≤ x11 then (if x11 < (x9.length : Int) then ((rostrumref12_Free.f k ((rd_T34 x9 x11).f5)).bind fun t241 => (if ((rd_T34 x9 x11).f0) = 3 then (rostrumref12_Free.j1 k x3 t241 x9 x10 x11 true ((rd_T34 x9 x11).f0) ((rd_T34 x9 x11).f1) ((rd_T34 x9 x11).f2) ((rd_T34 x9 x11).f3) ((rd_T34 x9 x11).f4.f0) ((rd_T34 x9 x11).f4.f1) ((rd_T34 x9 x11).f4.f2) ((rd_T34 x9 x11).f4.f3) ((rd_T34 x9 x11).f5)) else (if ((rd_T34 x9 x11).f0) = 5 then (rostrumref12_Free.j1 k x3 t241 x9 x10 x11 true ((rd_T34 x9 x11).f0) ((rd_T34 x9 x11).f1) ((rd_T34 x9 x11).f2) ((rd_T34 x9 x11).f3) ((rd_T34 x9 x11).f4.f0) ((rd_T34 x9 x11).f4.f1) ((rd_T34 x9 x11).f4.f2) ((rd_T34 x9 x11).f4.f3) ((rd_T34 x9 x11).f5)) else (rostrumref12_Free.j1 k x3 t241 x9 x10 x11 (((rd_T34 x9 x11).f0) == 10) ((rd_T34 x9 x11).f0) ((rd_T34 x9 x11).f1) ((rd_T34 x9 x11).f2) ((rd_T34 x9 x11).f3) ((rd_T34 x9 x11).f4.f0) ((rd_T34 x9 x11).f4.f1) ((rd_T34 x9 x11).f4.f2) ((rd_T34 x9 x11).f4.f3) ((rd_T34 x9 x11).f5))))) else (none)) else (none)) else (some x3)
def rostrumref12_Free.j1 : Nat → List ByteArray → List ByteArray → List (S34) → Int → Int → Bool → Int → Int → Int → ByteArray → Int → ByteArray → List (S32) → List (S32) → List (S34) → Option (List ByteArray)
  | 0, _, _, _, _, _, _, _, _, _, _, _, _, _, _, _ => none
  | k + 1, x3, x6, x9, x10, x11, x30, x241000, x241001, x241002, x241003, x241004, x241005, x241006, x241007, x241008 => if x30 = true then (if x6.length < 8796093022208 then (rostrumref12_Free.j2 k x3 (x6 ++ [x241003]) x9 x10 x11) else (none)) else (rostrumref12_Free.j2 k x3 x6 x9 x10 x11)
def rostrumref12_Free.j2 : Nat → List ByteArray → List ByteArray → List (S34) → Int → Int → Option (List ByteArray)
  | 0, _, _, _, _, _ => none
  | k + 1, x3, x6, x9, x10, x11 => rostrumref12_Free.l1 k x3 x9 x10 x11 x6 (x6.length : Int) 0
def rostrumref12_Free.l1 : Nat → List ByteArray → List (S34) → Int → Int → List ByteArray → Int → Int → Option (List ByteArray)
  | 0, _, _, _, _, _, _, _ => none
  | k + 1, x3, x9, x10, x11, x36, x37, x38 => if x38 < x37 then (if 0 ≤ x38 then (if x38 < (x36.length : Int) then ((rostrumref12_with.f k x3 (rdOf ByteArray.empty x36 x38)).bind fun t248 => (rostrumref12_Free.l1 k t248 x9 x10 x11 x36 x37 (wrap64 (x38 + 1)))) else (none)) else (none)) else (rostrumref12_Free.l0 k x3 x9 x10 (wrap64 (x11 + 1)))
def rostrumref12_Free.f : Nat → List (S34) → Option (List ByteArray)
  | 0, _ => none
  | k + 1, l0 => rostrumref12_Free.l0 k ([] : List ByteArray) l0 (l0.length : Int) 0
end
theorem rostrumref12_Free.mono_l : ∀ k, (∀ y0, LeO (rostrumref12_Free.f k y0) (rostrumref12_Free.f (k + 1) y0)) ∧ (∀ y0 y1 y2 y3, LeO (rostrumref12_Free.l0 k y0 y1 y2 y3) (rostrumref12_Free.l0 (k + 1) y0 y1 y2 y3)) ∧ (∀ y0 y1 y2 y3 y4 y5 y6 y7 y8 y9 y10 y11 y12 y13 y14, LeO (rostrumref12_Free.j1 k y0 y1 y2 y3 y4 y5 y6 y7 y8 y9 y10 y11 y12 y13 y14) (rostrumref12_Free.j1 (k + 1) y0 y1 y2 y3 y4 y5 y6 y7 y8 y9 y10 y11 y12 y13 y14)) ∧ (∀ y0 y1 y2 y3 y4, LeO (rostrumref12_Free.j2 k y0 y1 y2 y3 y4) (rostrumref12_Free.j2 (k + 1) y0 y1 y2 y3 y4)) ∧ (∀ y0 y1 y2 y3 y4 y5 y6, LeO (rostrumref12_Free.l1 k y0 y1 y2 y3 y4 y5 y6) (rostrumref12_Free.l1 (k + 1) y0 y1 y2 y3 y4 y5 y6))
  | 0 => ⟨fun _ r h => by simp [rostrumref12_Free.f] at h, fun _ _ _ _ r h => by simp [rostrumref12_Free.l0] at h, fun _ _ _ _ _ _ _ _ _ _ _ _ _ _ _ r h => by simp [rostrumref12_Free.j1] at h, fun _ _ _ _ _ r h => by simp [rostrumref12_Free.j2] at h, fun _ _ _ _ _ _ _ r h => by simp [rostrumref12_Free.l1] at h⟩
  | k + 1 => by
    obtain ⟨ih0, ih1, ih2, ih3, ih4⟩ := rostrumref12_Free.mono_l k
    refine ⟨?_, ?_, ?_, ?_, ?_⟩
    · intro y0
      unfold rostrumref12_Free.f
      repeat' first
      | (with_reducible exact ih0 _)
      | (with_reducible exact ih1 _ _ _ _)
      | (with_reducible exact ih2 _ _ _ _ _ _ _ _ _ _ _ _ _ _ _)
      | (with_reducible exact ih3 _ _ _ _ _)
      | (with_reducible exact ih4 _ _ _ _ _ _ _)
      | (with_reducible exact rostrumref12_with.mono _ _ _)
      | (with_reducible exact LeO.refl _)
      | (with_reducible exact LeO.none _)
      | (with_reducible refine LeO.ite ?_ ?_)
      | (with_reducible refine LeO.bind ?_ (fun _ => ?_))
      | exact ih0 _
      | exact ih1 _ _ _ _
      | exact ih2 _ _ _ _ _ _ _ _ _ _ _ _ _ _ _
      | exact ih3 _ _ _ _ _
      | exact ih4 _ _ _ _ _ _ _
      | exact rostrumref12_with.mono _ _ _
      | exact LeO.none _
      | refine LeO.ite ?_ ?_
      | refine LeO.bind ?_ (fun _ => ?_)
    · intro y0 y1 y2 y3
      unfold rostrumref12_Free.l0
      repeat' first
      | (with_reducible exact ih0 _)
      | (with_reducible exact ih1 _ _ _ _)
      | (with_reducible exact ih2 _ _ _ _ _ _ _ _ _ _ _ _ _ _ _)
      | (with_reducible exact ih3 _ _ _ _ _)
      | (with_reducible exact ih4 _ _ _ _ _ _ _)
      | (with_reducible exact rostrumref12_with.mono _ _ _)
      | (with_reducible exact LeO.refl _)
      | (with_reducible exact LeO.none _)
      | (with_reducible refine LeO.ite ?_ ?_)
      | (with_reducible refine LeO.bind ?_ (fun _ => ?_))
      | exact ih0 _
      | exact ih1 _ _ _ _
      | exact ih2 _ _ _ _ _ _ _ _ _ _ _ _ _ _ _
      | exact ih3 _ _ _ _ _
      | exact ih4 _ _ _ _ _ _ _
      | exact rostrumref12_with.mono _ _ _
      | exact LeO.none _
      | refine LeO.ite ?_ ?_
      | refine LeO.bind ?_ (fun _ => ?_)
    · intro y0 y1 y2 y3 y4 y5 y6 y7 y8 y9 y10 y11 y12 y13 y14
      unfold rostrumref12_Free.j1
      repeat' first
      | (with_reducible exact ih0 _)
      | (with_reducible exact ih1 _ _ _ _)
      | (with_reducible exact ih2 _ _ _ _ _ _ _ _ _ _ _ _ _ _ _)
      | (with_reducible exact ih3 _ _ _ _ _)
      | (with_reducible exact ih4 _ _ _ _ _ _ _)
      | (with_reducible exact rostrumref12_with.mono _ _ _)
      | (with_reducible exact LeO.refl _)
      | (with_reducible exact LeO.none _)
      | (with_reducible refine LeO.ite ?_ ?_)
      | (with_reducible refine LeO.bind ?_ (fun _ => ?_))
      | exact ih0 _
      | exact ih1 _ _ _ _
      | exact ih2 _ _ _ _ _ _ _ _ _ _ _ _ _ _ _
      | exact ih3 _ _ _ _ _
      | exact ih4 _ _ _ _ _ _ _
      | exact rostrumref12_with.mono _ _ _
      | exact LeO.none _
      | refine LeO.ite ?_ ?_
      | refine LeO.bind ?_ (fun _ => ?_)
    · intro y0 y1 y2 y3 y4
      unfold rostrumref12_Free.j2
      repeat' first
      | (with_reducible exact ih0 _)
      | (with_reducible exact ih1 _ _ _ _)
      | (with_reducible exact ih2 _ _ _ _ _ _ _ _ _ _ _ _ _ _ _)
      | (with_reducible exact ih3 _ _ _ _ _)
      | (with_reducible exact ih4 _ _ _ _ _ _ _)
      | (with_reducible exact rostrumref12_with.mono _ _ _)
      | (with_reducible exact LeO.refl _)
      | (with_reducible exact LeO.none _)
      | (with_reducible refine LeO.ite ?_ ?_)
      | (with_reducible refine LeO.bind ?_ (fun _ => ?_))
      | exact ih0 _
      | exact ih1 _ _ _ _
      | exact ih2 _ _ _ _ _ _ _ _ _ _ _ _ _ _ _
      | exact ih3 _ _ _ _ _
      | exact ih4 _ _ _ _ _ _ _
      | exact rostrumref12_with.mono _ _ _
      | exact LeO.none _
      | refine LeO.ite ?_ ?_
      | refine LeO.bind ?_ (fun _ => ?_)
    · intro y0 y1 y2 y3 y4 y5 y6
      unfold rostrumref12_Free.l1
      repeat' first
      | (with_reducible exact ih0 _)
      | (with_reducible exact ih1 _ _ _ _)
      | (with_reducible exact ih2 _ _ _ _ _ _ _ _ _ _ _ _ _ _ _)
      | (with_reducible exact ih3 _ _ _ _ _)
      | (with_reducible exact ih4 _ _ _ _ _ _ _)
      | (with_reducible exact rostrumref12_with.mono _ _ _)
      | (with_reducible exact LeO.refl _)
      | (with_reducible exact LeO.none _)
      | (with_reducible refine LeO.ite ?_ ?_)
      | (with_reducible refine LeO.bind ?_ (fun _ => ?_))
      | exact ih0 _
      | exact ih1 _ _ _ _
      | exact ih2 _ _ _ _ _ _ _ _ _ _ _ _ _ _ _
      | exact ih3 _ _ _ _ _
      | exact ih4 _ _ _ _ _ _ _
      | exact rostrumref12_with.mono _ _ _
      | exact LeO.none _
      | refine LeO.ite ?_ ?_
      | refine LeO.bind ?_ (fun _ => ?_)
theorem rostrumref12_Free.mono : ∀ a0 k, LeO (rostrumref12_Free.f k a0) (rostrumref12_Free.f (k + 1) a0) := by
  intro a0 k
  obtain ⟨ih0, ih1, ih2, ih3, ih4⟩ := rostrumref12_Free.mono_l k
  exact ih0 a0
set_option maxHeartbeats 8000000 in
set_option maxRecDepth 100000 in
theorem rostrumref12_Free.calls (k : Nat) : ∀ (A0 : Option Addr) (c0 : Nat) (l0 : List (S34)) (r : List ByteArray) (w : World) (hr0 : Kd.C k34 w A0 l0.length l0) (hc0 : l0.length ≤ c0) (h : rostrumref12_Free.f k l0 = some r),
    Calls Try.prog 6 #[.slice A0 l0.length c0] w fun e w' => ∃ v0_ : Value, e = .returned (v0_) ∧ Kd.R Kd.string 9 w' w.heap.size (fun _ => True) v0_ r ∧ Below w.heap.size w w' := by
  induction k using Nat.strongRecOn with
  | _ k ih =>
  intro A0 c0 l0 r w hr0 hc0 h
  cases k with
  | zero => exact absurd h (by simp [rostrumref12_Free.f])
  | succ k =>
  simp only [rostrumref12_Free.f] at h
  have hu34 := Try.underlying34
  have HR0 := Aside0.mk hr0
  have HC0 := Aside0.mk hc0
  clear hr0 hc0
  have HB := Aside0.mk (Below.refl w.heap.size w)
  have H : (rostrumref12_Free.l0 k ([] : List ByteArray) l0 (l0.length : Int) 0) = some r := h
  clear h
  have H' := Aside0.mk H
  clear H
  go_enter Try.func6, Try.ntmps6
  go_wp2
  go_loopg [3, 11] k (fun kq v3 v11 w' => ∃ (x3_1 : List ByteArray) (x11_1 : Int), v11 = .int .i64 x11_1 ∧ Aside0 (rostrumref12_Free.l0 kq x3_1 l0 (l0.length : Int) x11_1 = some r) ∧ Aside0 (kq ≤ k) ∧ Aside0 (Kd.R Kd.string 9 w' w.heap.size (fun _ => True) v3 x3_1) ∧ Aside0 (Below w.heap.size w w'))
  case atStart => exact ⟨(([] : List ByteArray)), (0), (by first | rfl | (simp; done) | (simp [*]; done)), H', ⟨Nat.le_refl _⟩, ⟨by first | exact Kd.R_nil _ _ _ _ _ | exact Kd.N_nil _ _ _ _ _ | exact Kd.V_nil _ _ _ _ _ | exact Kd.Q_nil _ _ _ _ _ | exact Kd.S_nil _ _ _ _ _⟩, ⟨by repeat (first | (with_reducible first | exact HB.out | apply below_alloc | apply pw_below_drewN | apply below_drew1) | exact HB.out)⟩⟩
  case round =>
    clear H'
    obtain ⟨x3_1, x11_1, rfl, HA, HK1, HO_3, HB⟩ := hrel
    cases gk with
    | zero => exact absurd HA.out (by simp [rostrumref12_Free.l0])
    | succ k1 =>
      have H := HA.out
      clear HA
      simp only [rostrumref12_Free.l0] at H
      by_cases c2 : x11_1 < (l0.length : Int)
      · rw [if_pos c2] at H
        have c2b0 : decide (x11_1 < (l0.length : Int)) = true := decide_eq_true c2
        clear c2
        by_cases c3 : 0 ≤ x11_1
        · rw [if_pos c3] at H
          have c3b0 : decide (0 ≤ x11_1) = true := decide_eq_true c3
          clear c3
          by_cases c4 : x11_1 < (l0.length : Int)
          · rw [if_pos c4] at H
            have c4b0 : decide (x11_1 < (l0.length : Int)) = true := decide_eq_true c4
            clear c4
            replace H := Option.bind_eq_some_iff.mp H
            obtain ⟨t241, A50, H⟩ := H
            replace H : (if ((rd_T34 l0 x11_1).f0) = 3 then (rostrumref12_Free.j1 k1 x3_1 t241 l0 (l0.length : Int) x11_1 true ((rd_T34 l0 x11_1).f0) ((rd_T34 l0 x11_1).f1) ((rd_T34 l0 x11_1).f2) ((rd_T34 l0 x11_1).f3) ((rd_T34 l0 x11_1).f4.f0) ((rd_T34 l0 x11_1).f4.f1) ((rd_T34 l0 x11_1).f4.f2) ((rd_T34 l0 x11_1).f4.f3) ((rd_T34 l0 x11_1).f5)) else (if ((rd_T34 l0 x11_1).f0) = 5 then (rostrumref12_Free.j1 k1 x3_1 t241 l0 (l0.length : Int) x11_1 true ((rd_T34 l0 x11_1).f0) ((rd_T34 l0 x11_1).f1) ((rd_T34 l0 x11_1).f2) ((rd_T34 l0 x11_1).f3) ((rd_T34 l0 x11_1).f4.f0) ((rd_T34 l0 x11_1).f4.f1) ((rd_T34 l0 x11_1).f4.f2) ((rd_T34 l0 x11_1).f4.f3) ((rd_T34 l0 x11_1).f5)) else (rostrumref12_Free.j1 k1 x3_1 t241 l0 (l0.length : Int) x11_1 (((rd_T34 l0 x11_1).f0) == 10) ((rd_T34 l0 x11_1).f0) ((rd_T34 l0 x11_1).f1) ((rd_T34 l0 x11_1).f2) ((rd_T34 l0 x11_1).f3) ((rd_T34 l0 x11_1).f4.f0) ((rd_T34 l0 x11_1).f4.f1) ((rd_T34 l0 x11_1).f4.f2) ((rd_T34 l0 x11_1).f4.f3) ((rd_T34 l0 x11_1).f5)))) = some r := H
            have A5 := Aside0.mk A50
            clear A50
            have HC6 := Aside0.mk H
            clear H
            have p239 : 0 ≤ (x11_1 : Int) := of_decide_eq_true (by first | (with_reducible assumption) | assumption)
            have q239 : x11_1 < (l0.length : Int) := of_decide_eq_true (by first | (with_reducible assumption) | assumption)
            obtain ⟨ad239, A239_6, c239_6, A239_7, c239_7, A239_8, c239_8, e239, hx239_0, hx239_1, hx239_2, hx239_3, hx239_4, hx239_5, hx239_6, hx239_7, hx239_8, hl239_6, hi239_6, hl239_7, hi239_7, hl239_8, hi239_8⟩ := at_T34 HR0.out x11_1 p239 q239
            cases e239
            replace hx239_0 := (HB.out.cell (World.block_lt_of_cell? w _ hx239_0)).trans hx239_0
            replace hx239_1 := (HB.out.cell (World.block_lt_of_cell? w _ hx239_1)).trans hx239_1
            replace hx239_2 := (HB.out.cell (World.block_lt_of_cell? w _ hx239_2)).trans hx239_2
            replace hx239_3 := (HB.out.cell (World.block_lt_of_cell? w _ hx239_3)).trans hx239_3
            replace hx239_4 := (HB.out.cell (World.block_lt_of_cell? w _ hx239_4)).trans hx239_4
            replace hx239_5 := (HB.out.cell (World.block_lt_of_cell? w _ hx239_5)).trans hx239_5
            replace hx239_6 := (HB.out.cell (World.block_lt_of_cell? w _ hx239_6)).trans hx239_6
            replace hx239_7 := (HB.out.cell (World.block_lt_of_cell? w _ hx239_7)).trans hx239_7
            replace hx239_8 := (HB.out.cell (World.block_lt_of_cell? w _ hx239_8)).trans hx239_8
            have HR239_6 := Aside0.mk hi239_6
            have HC239_6 := Aside0.mk hl239_6
            clear hi239_6 hl239_6
            have HR239_7 := Aside0.mk hi239_7
            have HC239_7 := Aside0.mk hl239_7
            clear hi239_7 hl239_7
            have HR239_8 := Aside0.mk hi239_8
            have HC239_8 := Aside0.mk hl239_8
            clear hi239_8 hl239_8
            replace p239 := eq_true p239
            replace q239 := eq_true q239
            go_upto_region 6 with (first | ((with_reducible refine gate_dst (N := 5) rfl ?_); refine box_event ?hg (N := 5) ?hd (cs := #[.int .i64 0, .int .i64 0, .int .i64 0, .string (⟨#[]⟩ : ByteArray), .int .i64 0, .string (⟨#[]⟩ : ByteArray), .slice none 0 0, .slice none 0 0, .slice none 0 0]) (t := 34) ?hr ?_; (case hd => rfl); (case hg => rfl); (case hr => first | (go_simp; done) | (go_simp; rfl)); intro gb240 hg w7 hbox hb; have n0_ := Aside0.mk (Kd.R_below (by (with_reducible repeat (first | apply Kd.R_alloc | apply Kd.R_drewN | apply Kd.R_drew)); exact HO_3.out) hb); have n1_ := Aside0.mk (below_step (by repeat (first | (with_reducible first | exact HB.out | apply below_alloc | apply pw_below_drewN | apply below_drew1) | exact HB.out)) hb); have n2_ := Aside0.mk (hbox); have n3_ := Aside0.mk ((by rw [hg]; exact (below_size (by repeat (first | (with_reducible first | exact HB.out | apply below_alloc | apply pw_below_drewN | apply below_drew1) | exact HB.out))) : w.heap.size ≤ gb240)); have n4_ := Aside0.mk ((by rw [hg]; exact (below_size (by repeat (first | (with_reducible first | exact HB.out | apply below_alloc | apply pw_below_drewN | apply below_drew1) | exact HB.out))) : w.heap.size ≤ gb240)); clear HO_3; clear HB; have HO_3 := n0_; have HB := n1_; have BK240 := n2_; have GW240 := n3_; have GE240 := n4_; clear n0_ n1_ n2_ n3_ n4_; clear hb hbox hg; have hcz8_0 : w7.cell? ⟨gb240, 0, none⟩ = some (.int .i64 0) := (blk_cell BK240.out 0).trans rfl; have hcz8_1 : w7.cell? ⟨gb240, 1, none⟩ = some (.int .i64 0) := (blk_cell BK240.out 1).trans rfl; have hcz8_2 : w7.cell? ⟨gb240, 2, none⟩ = some (.int .i64 0) := (blk_cell BK240.out 2).trans rfl; have hcz8_3 : w7.cell? ⟨gb240, 3, none⟩ = some (.string (⟨#[]⟩ : ByteArray)) := (blk_cell BK240.out 3).trans rfl; have hcz8_4 : w7.cell? ⟨gb240, 4, none⟩ = some (.int .i64 0) := (blk_cell BK240.out 4).trans rfl; have hcz8_5 : w7.cell? ⟨gb240, 5, none⟩ = some (.string (⟨#[]⟩ : ByteArray)) := (blk_cell BK240.out 5).trans rfl; have hcz8_6 : w7.cell? ⟨gb240, 6, none⟩ = some (.slice none 0 0) := (blk_cell BK240.out 6).trans rfl; have hcz8_7 : w7.cell? ⟨gb240, 7, none⟩ = some (.slice none 0 0) := (blk_cell BK240.out 7).trans rfl; have hcz8_8 : w7.cell? ⟨gb240, 8, none⟩ = some (.slice none 0 0) := (blk_cell BK240.out 8).trans rfl; have hfz8_0 := blk_frozen BK240.out 0; have hfz8_1 := blk_frozen BK240.out 1; have hfz8_2 := blk_frozen BK240.out 2; have hfz8_3 := blk_frozen BK240.out 3; have hfz8_4 := blk_frozen BK240.out 4; have hfz8_5 := blk_frozen BK240.out 5; have hfz8_6 := blk_frozen BK240.out 6; have hfz8_7 := blk_frozen BK240.out 7; have hfz8_8 := blk_frozen BK240.out 8) | ((with_reducible refine gate_callee (f := 6) rfl ?_); refine goesL_ (some 17) rfl rfl Try.func6 (by kernel_rfl) rfl #[.slice A239_8 ((rd_T34 l0 x11_1).f5).length c239_8] rfl (by (try simp only [List.map_toArray, List.map_cons, List.map_nil]); first | done | rfl | (simp only [List.length_drop, List.length_take]; rfl)) ?_; (with_reducible refine (ih k1 (by have := HK1.out; omega) _ _ ((rd_T34 l0 x11_1).f5) t241 _ ?side1 ?side2 A5.out).mono ?_); (case side1 => exact Kd.C_below HR239_8.out (by repeat (first | (with_reducible first | exact HB.out | apply below_alloc | apply pw_below_drewN | apply below_drew1 | refine below_set ?_ GE240.out) | exact HB.out))); (case side2 => exact HC239_8.out); rintro e w9 ⟨v242, rfl, ho0, hb⟩; refine ⟨_, rfl, ?_⟩; have n0_ := Aside0.mk (Kd.R_elder' (by (with_reducible repeat (first | apply Kd.R_alloc | apply Kd.R_drewN | apply Kd.R_drew)); exact (Kd.R_mono (Kd.R_far (p := ⟨gb240, 8, none⟩) (Kd.R_far (p := ⟨gb240, 7, none⟩) (Kd.R_far (p := ⟨gb240, 6, none⟩) (Kd.R_far (p := ⟨gb240, 5, none⟩) (Kd.R_far (p := ⟨gb240, 4, none⟩) (Kd.R_far (p := ⟨gb240, 3, none⟩) (Kd.R_far (p := ⟨gb240, 2, none⟩) (Kd.R_far (p := ⟨gb240, 1, none⟩) (Kd.R_far (p := ⟨gb240, 0, none⟩) (Kd.R_types HO_3.out BK240.out (by decide)) (fun _ hk => hk.2) (.int .i64 ((rd_T34 l0 x11_1).f0))) (fun _ hk => hk.2) (.int .i64 ((rd_T34 l0 x11_1).f1))) (fun _ hk => hk.2) (.int .i64 ((rd_T34 l0 x11_1).f2))) (fun _ hk => hk.2) (.string ((rd_T34 l0 x11_1).f3))) (fun _ hk => hk.2) (.int .i64 ((rd_T34 l0 x11_1).f4.f0))) (fun _ hk => hk.2) (.string ((rd_T34 l0 x11_1).f4.f1))) (fun _ hk => hk.2) (.slice A239_6 ((rd_T34 l0 x11_1).f4.f2).length c239_6)) (fun _ hk => hk.2) (.slice A239_7 ((rd_T34 l0 x11_1).f4.f3).length c239_7)) (fun _ hk => hk.2) (.slice A239_8 ((rd_T34 l0 x11_1).f5).length c239_8)) (fun _ h_ => h_.1))) (Kd.R_base ho0) hb); have n1_ := Aside0.mk (Kd.R_lower (Kd.R_new' ho0 (Kd.R_lt (by (with_reducible repeat (first | apply Kd.R_alloc | apply Kd.R_drewN | apply Kd.R_drew)); exact (Kd.R_mono (Kd.R_far (p := ⟨gb240, 8, none⟩) (Kd.R_far (p := ⟨gb240, 7, none⟩) (Kd.R_far (p := ⟨gb240, 6, none⟩) (Kd.R_far (p := ⟨gb240, 5, none⟩) (Kd.R_far (p := ⟨gb240, 4, none⟩) (Kd.R_far (p := ⟨gb240, 3, none⟩) (Kd.R_far (p := ⟨gb240, 2, none⟩) (Kd.R_far (p := ⟨gb240, 1, none⟩) (Kd.R_far (p := ⟨gb240, 0, none⟩) (Kd.R_types HO_3.out BK240.out (by decide)) (fun _ hk => hk.2) (.int .i64 ((rd_T34 l0 x11_1).f0))) (fun _ hk => hk.2) (.int .i64 ((rd_T34 l0 x11_1).f1))) (fun _ hk => hk.2) (.int .i64 ((rd_T34 l0 x11_1).f2))) (fun _ hk => hk.2) (.string ((rd_T34 l0 x11_1).f3))) (fun _ hk => hk.2) (.int .i64 ((rd_T34 l0 x11_1).f4.f0))) (fun _ hk => hk.2) (.string ((rd_T34 l0 x11_1).f4.f1))) (fun _ hk => hk.2) (.slice A239_6 ((rd_T34 l0 x11_1).f4.f2).length c239_6)) (fun _ hk => hk.2) (.slice A239_7 ((rd_T34 l0 x11_1).f4.f3).length c239_7)) (fun _ hk => hk.2) (.slice A239_8 ((rd_T34 l0 x11_1).f5).length c239_8)) (fun _ h_ => h_.1))))) (below_size (by repeat (first | (with_reducible first | exact HB.out | apply below_alloc | apply pw_below_drewN | apply below_drew1 | refine below_set ?_ GE240.out) | exact HB.out)))); have n2_ := Aside0.mk (blk_below (g := gb240) (o := .cells #[.int .i64 ((rd_T34 l0 x11_1).f0), .int .i64 ((rd_T34 l0 x11_1).f1), .int .i64 ((rd_T34 l0 x11_1).f2), .string ((rd_T34 l0 x11_1).f3), .int .i64 ((rd_T34 l0 x11_1).f4.f0), .string ((rd_T34 l0 x11_1).f4.f1), .slice A239_6 ((rd_T34 l0 x11_1).f4.f2).length c239_6, .slice A239_7 ((rd_T34 l0 x11_1).f4.f3).length c239_7, .slice A239_8 ((rd_T34 l0 x11_1).f5).length c239_8] 34 (0, 0)) (by (with_reducible repeat (first | refine blk_drewN ?_ _ | refine blk_drew ?_ | refine blk_alloc ?_ _)); refine blk_put (cs := #[.int .i64 ((rd_T34 l0 x11_1).f0), .int .i64 ((rd_T34 l0 x11_1).f1), .int .i64 ((rd_T34 l0 x11_1).f2), .string ((rd_T34 l0 x11_1).f3), .int .i64 ((rd_T34 l0 x11_1).f4.f0), .string ((rd_T34 l0 x11_1).f4.f1), .slice A239_6 ((rd_T34 l0 x11_1).f4.f2).length c239_6, .slice A239_7 ((rd_T34 l0 x11_1).f4.f3).length c239_7, .slice none 0 0]) ?_ 8 _ rfl; (with_reducible repeat (first | refine blk_drewN ?_ _ | refine blk_drew ?_ | refine blk_alloc ?_ _)); refine blk_put (cs := #[.int .i64 ((rd_T34 l0 x11_1).f0), .int .i64 ((rd_T34 l0 x11_1).f1), .int .i64 ((rd_T34 l0 x11_1).f2), .string ((rd_T34 l0 x11_1).f3), .int .i64 ((rd_T34 l0 x11_1).f4.f0), .string ((rd_T34 l0 x11_1).f4.f1), .slice A239_6 ((rd_T34 l0 x11_1).f4.f2).length c239_6, .slice none 0 0, .slice none 0 0]) ?_ 7 _ rfl; (with_reducible repeat (first | refine blk_drewN ?_ _ | refine blk_drew ?_ | refine blk_alloc ?_ _)); refine blk_put (cs := #[.int .i64 ((rd_T34 l0 x11_1).f0), .int .i64 ((rd_T34 l0 x11_1).f1), .int .i64 ((rd_T34 l0 x11_1).f2), .string ((rd_T34 l0 x11_1).f3), .int .i64 ((rd_T34 l0 x11_1).f4.f0), .string ((rd_T34 l0 x11_1).f4.f1), .slice none 0 0, .slice none 0 0, .slice none 0 0]) ?_ 6 _ rfl; (with_reducible repeat (first | refine blk_drewN ?_ _ | refine blk_drew ?_ | refine blk_alloc ?_ _)); refine blk_put (cs := #[.int .i64 ((rd_T34 l0 x11_1).f0), .int .i64 ((rd_T34 l0 x11_1).f1), .int .i64 ((rd_T34 l0 x11_1).f2), .string ((rd_T34 l0 x11_1).f3), .int .i64 ((rd_T34 l0 x11_1).f4.f0), .string (⟨#[]⟩ : ByteArray), .slice none 0 0, .slice none 0 0, .slice none 0 0]) ?_ 5 _ rfl; (with_reducible repeat (first | refine blk_drewN ?_ _ | refine blk_drew ?_ | refine blk_alloc ?_ _)); refine blk_put (cs := #[.int .i64 ((rd_T34 l0 x11_1).f0), .int .i64 ((rd_T34 l0 x11_1).f1), .int .i64 ((rd_T34 l0 x11_1).f2), .string ((rd_T34 l0 x11_1).f3), .int .i64 0, .string (⟨#[]⟩ : ByteArray), .slice none 0 0, .slice none 0 0, .slice none 0 0]) ?_ 4 _ rfl; (with_reducible repeat (first | refine blk_drewN ?_ _ | refine blk_drew ?_ | refine blk_alloc ?_ _)); refine blk_put (cs := #[.int .i64 ((rd_T34 l0 x11_1).f0), .int .i64 ((rd_T34 l0 x11_1).f1), .int .i64 ((rd_T34 l0 x11_1).f2), .string (⟨#[]⟩ : ByteArray), .int .i64 0, .string (⟨#[]⟩ : ByteArray), .slice none 0 0, .slice none 0 0, .slice none 0 0]) ?_ 3 _ rfl; (with_reducible repeat (first | refine blk_drewN ?_ _ | refine blk_drew ?_ | refine blk_alloc ?_ _)); refine blk_put (cs := #[.int .i64 ((rd_T34 l0 x11_1).f0), .int .i64 ((rd_T34 l0 x11_1).f1), .int .i64 0, .string (⟨#[]⟩ : ByteArray), .int .i64 0, .string (⟨#[]⟩ : ByteArray), .slice none 0 0, .slice none 0 0, .slice none 0 0]) ?_ 2 _ rfl; (with_reducible repeat (first | refine blk_drewN ?_ _ | refine blk_drew ?_ | refine blk_alloc ?_ _)); refine blk_put (cs := #[.int .i64 ((rd_T34 l0 x11_1).f0), .int .i64 0, .int .i64 0, .string (⟨#[]⟩ : ByteArray), .int .i64 0, .string (⟨#[]⟩ : ByteArray), .slice none 0 0, .slice none 0 0, .slice none 0 0]) ?_ 1 _ rfl; (with_reducible repeat (first | refine blk_drewN ?_ _ | refine blk_drew ?_ | refine blk_alloc ?_ _)); refine blk_put (cs := #[.int .i64 0, .int .i64 0, .int .i64 0, .string (⟨#[]⟩ : ByteArray), .int .i64 0, .string (⟨#[]⟩ : ByteArray), .slice none 0 0, .slice none 0 0, .slice none 0 0]) ?_ 0 _ rfl; (with_reducible repeat (first | refine blk_drewN ?_ _ | refine blk_drew ?_ | refine blk_alloc ?_ _)); exact BK240.out) hb); have n3_ := Aside0.mk (below_step (by repeat (first | (with_reducible first | exact HB.out | apply below_alloc | apply pw_below_drewN | apply below_drew1 | refine below_set ?_ GE240.out) | exact HB.out)) hb); clear HO_3; clear BK240; clear HB; have HO_3 := n0_; have HO243 := n1_; have BK240 := n2_; have HB := n3_; clear n0_ n1_ n2_ n3_; (try clear hb); (try clear hb2); (try clear hk); (try clear hi); (try clear ho0)))
            (try simp only [Act.put, List.setIfInBounds_toArray, List.set_cons_zero, List.set_cons_succ])
            go_cut [30] (fun v30 wc => ∃ (kq : Nat) (x30_5 : Bool), v30 = .bool x30_5 ∧ Aside0 (rostrumref12_Free.j1 kq x3_1 t241 l0 (l0.length : Int) x11_1 x30_5 ((rd_T34 l0 x11_1).f0) ((rd_T34 l0 x11_1).f1) ((rd_T34 l0 x11_1).f2) ((rd_T34 l0 x11_1).f3) ((rd_T34 l0 x11_1).f4.f0) ((rd_T34 l0 x11_1).f4.f1) ((rd_T34 l0 x11_1).f4.f2) ((rd_T34 l0 x11_1).f4.f3) ((rd_T34 l0 x11_1).f5) = some r) ∧ Aside0 (kq ≤ k1) ∧ Aside0 (Kd.R Kd.string 9 wc w.heap.size (fun k_ => some k_ ≠ (v242 : Value).ownBlock) u3 x3_1) ∧ Aside0 (Kd.R Kd.string 9 wc w.heap.size (fun k_ => some k_ ≠ (u3 : Value).ownBlock) v242 t241) ∧ Aside0 (wc.heap[gb240]? = some (.cells #[.int .i64 ((rd_T34 l0 x11_1).f0), .int .i64 ((rd_T34 l0 x11_1).f1), .int .i64 ((rd_T34 l0 x11_1).f2), .string ((rd_T34 l0 x11_1).f3), .int .i64 ((rd_T34 l0 x11_1).f4.f0), .string ((rd_T34 l0 x11_1).f4.f1), (.slice A239_6 ((rd_T34 l0 x11_1).f4.f2).length c239_6), (.slice A239_7 ((rd_T34 l0 x11_1).f4.f3).length c239_7), (.slice A239_8 ((rd_T34 l0 x11_1).f5).length c239_8)] 34 (0, 0))) ∧ Aside0 (Below w.heap.size w wc))
            case first =>
              have H := HC6.out
              clear HC6
              by_cases c10 : ((rd_T34 l0 x11_1).f0) = 3
              · rw [if_pos c10] at H
                have c10b0 : (((rd_T34 l0 x11_1).f0) == 3) = true := beq_iff_eq.mpr c10
                have c10b1 : (((rd_T34 l0 x11_1).f0) != 3) = false := bne_eq_false_iff_eq.mpr c10
                clear c10
                (first | rw [c10b0] | (simp only [i64_w, i32_w]; rw [c10b0]) | skip)
                have H' := Aside0.mk H
                clear H
                have hcz11_0 : w9.cell? ⟨gb240, 0, none⟩ = some (.int .i64 ((rd_T34 l0 x11_1).f0)) := (blk_cell BK240.out 0).trans rfl
                have hcz11_1 : w9.cell? ⟨gb240, 1, none⟩ = some (.int .i64 ((rd_T34 l0 x11_1).f1)) := (blk_cell BK240.out 1).trans rfl
                have hcz11_2 : w9.cell? ⟨gb240, 2, none⟩ = some (.int .i64 ((rd_T34 l0 x11_1).f2)) := (blk_cell BK240.out 2).trans rfl
                have hcz11_3 : w9.cell? ⟨gb240, 3, none⟩ = some (.string ((rd_T34 l0 x11_1).f3)) := (blk_cell BK240.out 3).trans rfl
                have hcz11_4 : w9.cell? ⟨gb240, 4, none⟩ = some (.int .i64 ((rd_T34 l0 x11_1).f4.f0)) := (blk_cell BK240.out 4).trans rfl
                have hcz11_5 : w9.cell? ⟨gb240, 5, none⟩ = some (.string ((rd_T34 l0 x11_1).f4.f1)) := (blk_cell BK240.out 5).trans rfl
                have hcz11_6 : w9.cell? ⟨gb240, 6, none⟩ = some (.slice A239_6 ((rd_T34 l0 x11_1).f4.f2).length c239_6) := (blk_cell BK240.out 6).trans rfl
                have hcz11_7 : w9.cell? ⟨gb240, 7, none⟩ = some (.slice A239_7 ((rd_T34 l0 x11_1).f4.f3).length c239_7) := (blk_cell BK240.out 7).trans rfl
                have hcz11_8 : w9.cell? ⟨gb240, 8, none⟩ = some (.slice A239_8 ((rd_T34 l0 x11_1).f5).length c239_8) := (blk_cell BK240.out 8).trans rfl
                have hfz11_0 := blk_frozen BK240.out 0
                have hfz11_1 := blk_frozen BK240.out 1
                have hfz11_2 := blk_frozen BK240.out 2
                have hfz11_3 := blk_frozen BK240.out 3
                have hfz11_4 := blk_frozen BK240.out 4
                have hfz11_5 := blk_frozen BK240.out 5
                have hfz11_6 := blk_frozen BK240.out 6
                have hfz11_7 := blk_frozen BK240.out 7
                have hfz11_8 := blk_frozen BK240.out 8
                go_wp2
                go_meet
                case rel => exact ⟨_, (true), (by first | rfl | (simp; done) | (simp [*]; done)), H', ⟨by have := HK1.out; first | omega | exact Nat.le_refl _⟩, ⟨by (with_reducible repeat (first | apply Kd.R_alloc | apply Kd.R_drewN | apply Kd.R_drew)); exact Kd.R_mono HO_3.out (fun _ hk => hk.2)⟩, ⟨by (with_reducible repeat (first | apply Kd.R_alloc | apply Kd.R_drewN | apply Kd.R_drew)); exact Kd.R_mono HO243.out (fun _ hk => hk.2)⟩, ⟨by (with_reducible repeat (first | refine blk_drewN ?_ _ | refine blk_drew ?_ | refine blk_alloc ?_ _)); exact BK240.out⟩, ⟨by repeat (first | (with_reducible first | exact HB.out | apply below_alloc | apply pw_below_drewN | apply below_drew1 | refine below_set ?_ GE240.out) | exact HB.out)⟩⟩
              · rw [if_neg c10] at H
                have c10b0 : (((rd_T34 l0 x11_1).f0) == 3) = false := beq_eq_false_iff_ne.mpr c10
                have c10b1 : (((rd_T34 l0 x11_1).f0) != 3) = true := bne_iff_ne.mpr c10
                (first | rw [c10b0] | (simp only [i64_w, i32_w]; rw [c10b0]) | skip)
                by_cases c12 : ((rd_T34 l0 x11_1).f0) = 5
                · rw [if_pos c12] at H
                  have c12b0 : (((rd_T34 l0 x11_1).f0) == 5) = true := beq_iff_eq.mpr c12
                  have c12b1 : (((rd_T34 l0 x11_1).f0) != 5) = false := bne_eq_false_iff_eq.mpr c12
                  clear c12
                  have H' := Aside0.mk H
                  clear H
                  have hcz13_0 : w9.cell? ⟨gb240, 0, none⟩ = some (.int .i64 ((rd_T34 l0 x11_1).f0)) := (blk_cell BK240.out 0).trans rfl
                  have hcz13_1 : w9.cell? ⟨gb240, 1, none⟩ = some (.int .i64 ((rd_T34 l0 x11_1).f1)) := (blk_cell BK240.out 1).trans rfl
                  have hcz13_2 : w9.cell? ⟨gb240, 2, none⟩ = some (.int .i64 ((rd_T34 l0 x11_1).f2)) := (blk_cell BK240.out 2).trans rfl
                  have hcz13_3 : w9.cell? ⟨gb240, 3, none⟩ = some (.string ((rd_T34 l0 x11_1).f3)) := (blk_cell BK240.out 3).trans rfl
                  have hcz13_4 : w9.cell? ⟨gb240, 4, none⟩ = some (.int .i64 ((rd_T34 l0 x11_1).f4.f0)) := (blk_cell BK240.out 4).trans rfl
                  have hcz13_5 : w9.cell? ⟨gb240, 5, none⟩ = some (.string ((rd_T34 l0 x11_1).f4.f1)) := (blk_cell BK240.out 5).trans rfl
                  have hcz13_6 : w9.cell? ⟨gb240, 6, none⟩ = some (.slice A239_6 ((rd_T34 l0 x11_1).f4.f2).length c239_6) := (blk_cell BK240.out 6).trans rfl
                  have hcz13_7 : w9.cell? ⟨gb240, 7, none⟩ = some (.slice A239_7 ((rd_T34 l0 x11_1).f4.f3).length c239_7) := (blk_cell BK240.out 7).trans rfl
                  have hcz13_8 : w9.cell? ⟨gb240, 8, none⟩ = some (.slice A239_8 ((rd_T34 l0 x11_1).f5).length c239_8) := (blk_cell BK240.out 8).trans rfl
                  have hfz13_0 := blk_frozen BK240.out 0
                  have hfz13_1 := blk_frozen BK240.out 1
                  have hfz13_2 := blk_frozen BK240.out 2
                  have hfz13_3 := blk_frozen BK240.out 3
                  have hfz13_4 := blk_frozen BK240.out 4
                  have hfz13_5 := blk_frozen BK240.out 5
                  have hfz13_6 := blk_frozen BK240.out 6
                  have hfz13_7 := blk_frozen BK240.out 7
                  have hfz13_8 := blk_frozen BK240.out 8
                  go_wp2
                  go_meet
                  case rel => exact ⟨_, (true), (by first | rfl | (simp; done) | (simp [*]; done)), H', ⟨by have := HK1.out; first | omega | exact Nat.le_refl _⟩, ⟨by (with_reducible repeat (first | apply Kd.R_alloc | apply Kd.R_drewN | apply Kd.R_drew)); exact Kd.R_mono HO_3.out (fun _ hk => hk.2)⟩, ⟨by (with_reducible repeat (first | apply Kd.R_alloc | apply Kd.R_drewN | apply Kd.R_drew)); exact Kd.R_mono HO243.out (fun _ hk => hk.2)⟩, ⟨by (with_reducible repeat (first | refine blk_drewN ?_ _ | refine blk_drew ?_ | refine blk_alloc ?_ _)); exact BK240.out⟩, ⟨by repeat (first | (with_reducible first | exact HB.out | apply below_alloc | apply pw_below_drewN | apply below_drew1 | refine below_set ?_ GE240.out) | exact HB.out)⟩⟩
                · rw [if_neg c12] at H
                  have c12b0 : (((rd_T34 l0 x11_1).f0) == 5) = false := beq_eq_false_iff_ne.mpr c12
                  have c12b1 : (((rd_T34 l0 x11_1).f0) != 5) = true := bne_iff_ne.mpr c12
                  have H' := Aside0.mk H
                  clear H
                  have hcz14_0 : w9.cell? ⟨gb240, 0, none⟩ = some (.int .i64 ((rd_T34 l0 x11_1).f0)) := (blk_cell BK240.out 0).trans rfl
                  have hcz14_1 : w9.cell? ⟨gb240, 1, none⟩ = some (.int .i64 ((rd_T34 l0 x11_1).f1)) := (blk_cell BK240.out 1).trans rfl
                  have hcz14_2 : w9.cell? ⟨gb240, 2, none⟩ = some (.int .i64 ((rd_T34 l0 x11_1).f2)) := (blk_cell BK240.out 2).trans rfl
                  have hcz14_3 : w9.cell? ⟨gb240, 3, none⟩ = some (.string ((rd_T34 l0 x11_1).f3)) := (blk_cell BK240.out 3).trans rfl
                  have hcz14_4 : w9.cell? ⟨gb240, 4, none⟩ = some (.int .i64 ((rd_T34 l0 x11_1).f4.f0)) := (blk_cell BK240.out 4).trans rfl
                  have hcz14_5 : w9.cell? ⟨gb240, 5, none⟩ = some (.string ((rd_T34 l0 x11_1).f4.f1)) := (blk_cell BK240.out 5).trans rfl
                  have hcz14_6 : w9.cell? ⟨gb240, 6, none⟩ = some (.slice A239_6 ((rd_T34 l0 x11_1).f4.f2).length c239_6) := (blk_cell BK240.out 6).trans rfl
                  have hcz14_7 : w9.cell? ⟨gb240, 7, none⟩ = some (.slice A239_7 ((rd_T34 l0 x11_1).f4.f3).length c239_7) := (blk_cell BK240.out 7).trans rfl
                  have hcz14_8 : w9.cell? ⟨gb240, 8, none⟩ = some (.slice A239_8 ((rd_T34 l0 x11_1).f5).length c239_8) := (blk_cell BK240.out 8).trans rfl
                  have hfz14_0 := blk_frozen BK240.out 0
                  have hfz14_1 := blk_frozen BK240.out 1
                  have hfz14_2 := blk_frozen BK240.out 2
                  have hfz14_3 := blk_frozen BK240.out 3
                  have hfz14_4 := blk_frozen BK240.out 4
                  have hfz14_5 := blk_frozen BK240.out 5
                  have hfz14_6 := blk_frozen BK240.out 6
                  have hfz14_7 := blk_frozen BK240.out 7
                  have hfz14_8 := blk_frozen BK240.out 8
                  go_wp2
                  go_meet
                  case rel => exact ⟨_, ((((rd_T34 l0 x11_1).f0) == 10)), (by first | rfl | (simp; done) | (simp [*]; done)), H', ⟨by have := HK1.out; first | omega | exact Nat.le_refl _⟩, ⟨by (with_reducible repeat (first | apply Kd.R_alloc | apply Kd.R_drewN | apply Kd.R_drew)); exact Kd.R_mono HO_3.out (fun _ hk => hk.2)⟩, ⟨by (with_reducible repeat (first | apply Kd.R_alloc | apply Kd.R_drewN | apply Kd.R_drew)); exact Kd.R_mono HO243.out (fun _ hk => hk.2)⟩, ⟨by (with_reducible repeat (first | refine blk_drewN ?_ _ | refine blk_drew ?_ | refine blk_alloc ?_ _)); exact BK240.out⟩, ⟨by repeat (first | (with_reducible first | exact HB.out | apply below_alloc | apply pw_below_drewN | apply below_drew1 | refine below_set ?_ GE240.out) | exact HB.out)⟩⟩
            case rest =>
              clear HC6
              try clear c1
              try clear c2
              try clear c2b0
              try clear p2
              try clear q2
              try clear hx2
              try clear c3
              try clear c3b0
              try clear c4
              try clear c4b0
              try clear c6
              try clear c10
              try clear c10b0
              try clear c10b1
              try clear c12
              try clear c12b0
              try clear c12b1
              try clear hcz11_0
              try clear hcz11_1
              try clear hcz11_2
              try clear hcz11_3
              try clear hcz11_4
              try clear hcz11_5
              try clear hcz11_6
              try clear hcz11_7
              try clear hcz11_8
              try clear hcz13_0
              try clear hcz13_1
              try clear hcz13_2
              try clear hcz13_3
              try clear hcz13_4
              try clear hcz13_5
              try clear hcz13_6
              try clear hcz13_7
              try clear hcz13_8
              try clear hcz14_0
              try clear hcz14_1
              try clear hcz14_2
              try clear hcz14_3
              try clear hcz14_4
              try clear hcz14_5
              try clear hcz14_6
              try clear hcz14_7
              try clear hcz14_8
              try clear hcz8_0
              try clear hcz8_1
              try clear hcz8_2
              try clear hcz8_3
              try clear hcz8_4
              try clear hcz8_5
              try clear hcz8_6
              try clear hcz8_7
              try clear hcz8_8
              try clear hfz11_0
              try clear hfz11_1
              try clear hfz11_2
              try clear hfz11_3
              try clear hfz11_4
              try clear hfz11_5
              try clear hfz11_6
              try clear hfz11_7
              try clear hfz11_8
              try clear hfz13_0
              try clear hfz13_1
              try clear hfz13_2
              try clear hfz13_3
              try clear hfz13_4
              try clear hfz13_5
              try clear hfz13_6
              try clear hfz13_7
              try clear hfz13_8
              try clear hfz14_0
              try clear hfz14_1
              try clear hfz14_2
              try clear hfz14_3
              try clear hfz14_4
              try clear hfz14_5
              try clear hfz14_6
              try clear hfz14_7
              try clear hfz14_8
              try clear hfz8_0
              try clear hfz8_1
              try clear hfz8_2
              try clear hfz8_3
              try clear hfz8_4
              try clear hfz8_5
              try clear hfz8_6
              try clear hfz8_7
              try clear hfz8_8
              try clear hx239_0
              try clear hx239_1
              try clear hx239_2
              try clear hx239_3
              try clear hx239_4
              try clear hx239_5
              try clear hx239_6
              try clear hx239_7
              try clear hx239_8
              try clear p239
              try clear q239
              obtain ⟨kq, x30_5, rfl, HA, HJ5, HO_3, HO_6, BK240, HB⟩ := hcut
              cases kq with
              | zero => exact absurd HA.out (by simp [rostrumref12_Free.j1])
              | succ kj5 =>
                have H := HA.out
                clear HA
                simp only [rostrumref12_Free.j1] at H
                have HC15 := Aside0.mk H
                clear H
                go_upto_if 30 with (fail)
                go_cut [6] (fun v6 wc => ∃ (kq : Nat) (x6_14 : List ByteArray), Aside0 (rostrumref12_Free.j2 kq x3_1 x6_14 l0 (l0.length : Int) x11_1 = some r) ∧ Aside0 (kq ≤ kj5) ∧ Aside0 (Kd.R Kd.string 9 wc w.heap.size (fun k_ => some k_ ≠ (v6 : Value).ownBlock) u3 x3_1) ∧ Aside0 (Kd.R Kd.string 9 wc w.heap.size (fun k_ => some k_ ≠ (u3 : Value).ownBlock) v6 x6_14) ∧ Aside0 (wc.heap[gb240]? = some (.cells #[.int .i64 ((rd_T34 l0 x11_1).f0), .int .i64 ((rd_T34 l0 x11_1).f1), .int .i64 ((rd_T34 l0 x11_1).f2), .string ((rd_T34 l0 x11_1).f3), .int .i64 ((rd_T34 l0 x11_1).f4.f0), .string ((rd_T34 l0 x11_1).f4.f1), (.slice A239_6 ((rd_T34 l0 x11_1).f4.f2).length c239_6), (.slice A239_7 ((rd_T34 l0 x11_1).f4.f3).length c239_7), (.slice A239_8 ((rd_T34 l0 x11_1).f5).length c239_8)] 34 (0, 0))) ∧ Aside0 (Below w.heap.size w wc))
                case first =>
                  have H := HC15.out
                  clear HC15
                  by_cases c16 : x30_5 = true
                  · subst c16
                    have H1 : (if t241.length < 8796093022208 then (rostrumref12_Free.j2 kj5 x3_1 (t241 ++ [((rd_T34 l0 x11_1).f3)]) l0 (l0.length : Int) x11_1) else (none)) = some r := by rw [if_pos rfl] at H; exact H
                    clear H
                    have H := H1
                    clear H1
                    by_cases c17 : t241.length < 8796093022208
                    · rw [if_pos c17] at H
                      have LMc17 := Aside0.mk c17
                      clear c17
                      obtain ⟨y244, hy244⟩ : ∃ y_ : List ByteArray, y_ = (t241 ++ [((rd_T34 l0 x11_1).f3)]) := ⟨_, rfl⟩
                      replace H : (rostrumref12_Free.j2 kj5 x3_1 y244 l0 (l0.length : Int) x11_1) = some r := by first | (rw [hy244]; with_reducible exact H) | (have H2_ := (Option.bind_some _ _).symm.trans H; rw [hy244]; with_reducible exact H2_) | (have H2_ := (Option.bind_some _ _).symm.trans H; with_reducible exact H2_) | with_reducible exact H | (rw [hy244]; exact H) | exact H
                      have Ny244 := Aside0.mk hy244
                      clear hy244
                      have H' := Aside0.mk H
                      clear H
                      have hcz18_0 : wc.cell? ⟨gb240, 0, none⟩ = some (.int .i64 ((rd_T34 l0 x11_1).f0)) := (blk_cell BK240.out 0).trans rfl
                      have hcz18_1 : wc.cell? ⟨gb240, 1, none⟩ = some (.int .i64 ((rd_T34 l0 x11_1).f1)) := (blk_cell BK240.out 1).trans rfl
                      have hcz18_2 : wc.cell? ⟨gb240, 2, none⟩ = some (.int .i64 ((rd_T34 l0 x11_1).f2)) := (blk_cell BK240.out 2).trans rfl
                      have hcz18_3 : wc.cell? ⟨gb240, 3, none⟩ = some (.string ((rd_T34 l0 x11_1).f3)) := (blk_cell BK240.out 3).trans rfl
                      have hcz18_4 : wc.cell? ⟨gb240, 4, none⟩ = some (.int .i64 ((rd_T34 l0 x11_1).f4.f0)) := (blk_cell BK240.out 4).trans rfl
                      have hcz18_5 : wc.cell? ⟨gb240, 5, none⟩ = some (.string ((rd_T34 l0 x11_1).f4.f1)) := (blk_cell BK240.out 5).trans rfl
                      have hcz18_6 : wc.cell? ⟨gb240, 6, none⟩ = some (.slice A239_6 ((rd_T34 l0 x11_1).f4.f2).length c239_6) := (blk_cell BK240.out 6).trans rfl
                      have hcz18_7 : wc.cell? ⟨gb240, 7, none⟩ = some (.slice A239_7 ((rd_T34 l0 x11_1).f4.f3).length c239_7) := (blk_cell BK240.out 7).trans rfl
                      have hcz18_8 : wc.cell? ⟨gb240, 8, none⟩ = some (.slice A239_8 ((rd_T34 l0 x11_1).f5).length c239_8) := (blk_cell BK240.out 8).trans rfl
                      have hfz18_0 := blk_frozen BK240.out 0
                      have hfz18_1 := blk_frozen BK240.out 1
                      have hfz18_2 := blk_frozen BK240.out 2
                      have hfz18_3 := blk_frozen BK240.out 3
                      have hfz18_4 := blk_frozen BK240.out 4
                      have hfz18_5 := blk_frozen BK240.out 5
                      have hfz18_6 := blk_frozen BK240.out 6
                      have hfz18_7 := blk_frozen BK240.out 7
                      have hfz18_8 := blk_frozen BK240.out 8
                      go_wp2_with (first | ((with_reducible refine gate_builtin (b := .append) (xs := #[.tmp 31, .tmp 34]) rfl ?_); at_builtin; refine Kd.R_append Kd.string (w0 := w) w.heap.size rfl (.tmp 31) (.tmp 34) 24 9 (.string ⟨#[]⟩) 16 rfl Try.underlying24 info9 rfl (by decide) (by omega) v242 t241 ((rd_T34 l0 x11_1).f3) [.string ((rd_T34 l0 x11_1).f3)] (fun k_ => some k_ ≠ (u3 : Value).ownBlock) (fun _ => False) rfl rfl ?aP (fun _ hk => hk.elim) ?aF ?aO ?aB ?aS ?aL ?_; (case aP => exact rfl); (case aB => exact (by repeat (first | (with_reducible first | exact HB.out | apply below_alloc | apply pw_below_drewN | apply below_drew1 | refine below_set ?_ GE240.out) | exact HB.out))); (case aF => exact (fun k_ hk => Kd.fresh' (Kd.R_lt (by (with_reducible repeat (first | apply Kd.R_alloc | apply Kd.R_drewN | apply Kd.R_drew)); exact HO_3.out)) k_ hk)); (case aO => exact (by (with_reducible repeat (first | apply Kd.R_alloc | apply Kd.R_drewN | apply Kd.R_drew)); exact HO_6.out)); (case aS => exact (below_size (by repeat (first | (with_reducible first | exact HB.out | apply below_alloc | apply pw_below_drewN | apply below_drew1 | refine below_set ?_ GE240.out) | exact HB.out)))); (case aL => have := LMc17.out; omega); intro v245 w19 ho hb hg hat; rw [← Ny244.out] at ho; have n0_ := Aside0.mk (Kd.R_after (ok := (fun _ => True)) (by (with_reducible repeat (first | apply Kd.R_alloc | apply Kd.R_drewN | apply Kd.R_drew)); exact Kd.R_mono HO_3.out (fun _ hk => ⟨trivial, hk⟩)) hg hat); have n1_ := Aside0.mk (blk_grown (g := gb240) (o := .cells #[.int .i64 ((rd_T34 l0 x11_1).f0), .int .i64 ((rd_T34 l0 x11_1).f1), .int .i64 ((rd_T34 l0 x11_1).f2), .string ((rd_T34 l0 x11_1).f3), .int .i64 ((rd_T34 l0 x11_1).f4.f0), .string ((rd_T34 l0 x11_1).f4.f1), .slice A239_6 ((rd_T34 l0 x11_1).f4.f2).length c239_6, .slice A239_7 ((rd_T34 l0 x11_1).f4.f3).length c239_7, .slice A239_8 ((rd_T34 l0 x11_1).f5).length c239_8] 34 (0, 0)) (by (with_reducible repeat (first | refine blk_drewN ?_ _ | refine blk_drew ?_ | refine blk_alloc ?_ _)); exact BK240.out) hg (Kd.R_ne HO_6.out BK240.out (by decide))); have n2_ := Aside0.mk (hb); have n3_ := Aside0.mk (ho); clear HO_3; clear BK240; clear HB; clear HO_6; have HO_3 := n0_; have BK240 := n1_; have HB := n2_; have HO246 := n3_; clear n0_ n1_ n2_ n3_; clear ho hb hg hat))
                      go_meet
                      case rel => exact ⟨_, (y244), H', ⟨by have := HK1.out; have := HJ5.out; first | omega | exact Nat.le_refl _⟩, ⟨by (with_reducible repeat (first | apply Kd.R_alloc | apply Kd.R_drewN | apply Kd.R_drew)); exact Kd.R_mono HO_3.out (fun _ hk => hk.2)⟩, ⟨by (with_reducible repeat (first | apply Kd.R_alloc | apply Kd.R_drewN | apply Kd.R_drew)); exact HO246.out⟩, ⟨by (with_reducible repeat (first | refine blk_drewN ?_ _ | refine blk_drew ?_ | refine blk_alloc ?_ _)); exact BK240.out⟩, ⟨by repeat (first | (with_reducible first | exact HB.out | apply below_alloc | apply pw_below_drewN | apply below_drew1 | refine below_set ?_ GE240.out) | exact HB.out)⟩⟩
                    · rw [if_neg c17] at H
                      exact absurd H (by simp)
                  · replace c16 := Bool.eq_false_iff.mpr c16
                    subst c16
                    have H1 : (rostrumref12_Free.j2 kj5 x3_1 t241 l0 (l0.length : Int) x11_1) = some r := by rw [if_neg (show ¬ (false = true) by decide)] at H; exact H
                    clear H
                    have H := H1
                    clear H1
                    have H' := Aside0.mk H
                    clear H
                    go_wp2
                    go_meet
                    case rel => exact ⟨_, (t241), H', ⟨by have := HK1.out; have := HJ5.out; first | omega | exact Nat.le_refl _⟩, ⟨by (with_reducible repeat (first | apply Kd.R_alloc | apply Kd.R_drewN | apply Kd.R_drew)); exact HO_3.out⟩, ⟨by (with_reducible repeat (first | apply Kd.R_alloc | apply Kd.R_drewN | apply Kd.R_drew)); exact HO_6.out⟩, ⟨by (with_reducible repeat (first | refine blk_drewN ?_ _ | refine blk_drew ?_ | refine blk_alloc ?_ _)); exact BK240.out⟩, ⟨by repeat (first | (with_reducible first | exact HB.out | apply below_alloc | apply pw_below_drewN | apply below_drew1 | refine below_set ?_ GE240.out) | exact HB.out)⟩⟩
                case rest =>
                  clear HC15
                  try clear c1
                  try clear c2
                  try clear c2b0
                  try clear p2
                  try clear q2
                  try clear hx2
                  try clear c3
                  try clear c3b0
                  try clear c4
                  try clear c4b0
                  try clear c6
                  try clear c10
                  try clear c10b0
                  try clear c10b1
                  try clear c12
                  try clear c12b0
                  try clear c12b1
                  try clear c16
                  try clear c17
                  try clear hcz11_0
                  try clear hcz11_1
                  try clear hcz11_2
                  try clear hcz11_3
                  try clear hcz11_4
                  try clear hcz11_5
                  try clear hcz11_6
                  try clear hcz11_7
                  try clear hcz11_8
                  try clear hcz13_0
                  try clear hcz13_1
                  try clear hcz13_2
                  try clear hcz13_3
                  try clear hcz13_4
                  try clear hcz13_5
                  try clear hcz13_6
                  try clear hcz13_7
                  try clear hcz13_8
                  try clear hcz14_0
                  try clear hcz14_1
                  try clear hcz14_2
                  try clear hcz14_3
                  try clear hcz14_4
                  try clear hcz14_5
                  try clear hcz14_6
                  try clear hcz14_7
                  try clear hcz14_8
                  try clear hcz18_0
                  try clear hcz18_1
                  try clear hcz18_2
                  try clear hcz18_3
                  try clear hcz18_4
                  try clear hcz18_5
                  try clear hcz18_6
                  try clear hcz18_7
                  try clear hcz18_8
                  try clear hcz8_0
                  try clear hcz8_1
                  try clear hcz8_2
                  try clear hcz8_3
                  try clear hcz8_4
                  try clear hcz8_5
                  try clear hcz8_6
                  try clear hcz8_7
                  try clear hcz8_8
                  try clear hfz11_0
                  try clear hfz11_1
                  try clear hfz11_2
                  try clear hfz11_3
                  try clear hfz11_4
                  try clear hfz11_5
                  try clear hfz11_6
                  try clear hfz11_7
                  try clear hfz11_8
                  try clear hfz13_0
                  try clear hfz13_1
                  try clear hfz13_2
                  try clear hfz13_3
                  try clear hfz13_4
                  try clear hfz13_5
                  try clear hfz13_6
                  try clear hfz13_7
                  try clear hfz13_8
                  try clear hfz14_0
                  try clear hfz14_1
                  try clear hfz14_2
                  try clear hfz14_3
                  try clear hfz14_4
                  try clear hfz14_5
                  try clear hfz14_6
                  try clear hfz14_7
                  try clear hfz14_8
                  try clear hfz18_0
                  try clear hfz18_1
                  try clear hfz18_2
                  try clear hfz18_3
                  try clear hfz18_4
                  try clear hfz18_5
                  try clear hfz18_6
                  try clear hfz18_7
                  try clear hfz18_8
                  try clear hfz8_0
                  try clear hfz8_1
                  try clear hfz8_2
                  try clear hfz8_3
                  try clear hfz8_4
                  try clear hfz8_5
                  try clear hfz8_6
                  try clear hfz8_7
                  try clear hfz8_8
                  try clear hx239_0
                  try clear hx239_1
                  try clear hx239_2
                  try clear hx239_3
                  try clear hx239_4
                  try clear hx239_5
                  try clear hx239_6
                  try clear hx239_7
                  try clear hx239_8
                  try clear p2
                  try clear p239
                  try clear q2
                  try clear q239
                  obtain ⟨kq, x6_14, HA, HJ14, HO_3, HO_6, BK240, HB⟩ := hcut
                  cases kq with
                  | zero => exact absurd HA.out (by simp [rostrumref12_Free.j2])
                  | succ kj14 =>
                    have H := HA.out
                    clear HA
                    simp only [rostrumref12_Free.j2] at H
                    have H' := Aside0.mk H
                    clear H
                    obtain ⟨Ao20, co20, eo20⟩ := Kd.R_slice HO_6.out
                    subst eo20
                    go_wp2
                    go_loopg [3, 38] kj14 (fun kq v3 v38 w' => ∃ (x3_4 : List ByteArray) (x38_4 : Int), v38 = .int .i64 x38_4 ∧ Aside0 (rostrumref12_Free.l1 kq x3_4 l0 (l0.length : Int) x11_1 x6_14 (x6_14.length : Int) x38_4 = some r) ∧ Aside0 (kq ≤ kj14) ∧ Aside0 (Kd.R Kd.string 9 w' w.heap.size (fun k_ => some k_ ≠ ((.slice Ao20 x6_14.length co20) : Value).ownBlock) v3 x3_4) ∧ Aside0 (Kd.R Kd.string 9 w' w.heap.size (fun k_ => some k_ ≠ (v3 : Value).ownBlock) (.slice Ao20 x6_14.length co20) x6_14) ∧ Aside0 (w'.heap[gb240]? = some (.cells #[.int .i64 ((rd_T34 l0 x11_1).f0), .int .i64 ((rd_T34 l0 x11_1).f1), .int .i64 ((rd_T34 l0 x11_1).f2), .string ((rd_T34 l0 x11_1).f3), .int .i64 ((rd_T34 l0 x11_1).f4.f0), .string ((rd_T34 l0 x11_1).f4.f1), (.slice A239_6 ((rd_T34 l0 x11_1).f4.f2).length c239_6), (.slice A239_7 ((rd_T34 l0 x11_1).f4.f3).length c239_7), (.slice A239_8 ((rd_T34 l0 x11_1).f5).length c239_8)] 34 (0, 0))) ∧ Aside0 (Below w.heap.size w w'))
                    case atStart => exact ⟨(x3_1), (0), (by first | rfl | (simp; done) | (simp [*]; done)), H', ⟨Nat.le_refl _⟩, ⟨by (with_reducible repeat (first | apply Kd.R_alloc | apply Kd.R_drewN | apply Kd.R_drew)); exact HO_3.out⟩, ⟨by (with_reducible repeat (first | apply Kd.R_alloc | apply Kd.R_drewN | apply Kd.R_drew)); exact HO_6.out⟩, ⟨by (with_reducible repeat (first | refine blk_drewN ?_ _ | refine blk_drew ?_ | refine blk_alloc ?_ _)); exact BK240.out⟩, ⟨by repeat (first | (with_reducible first | exact HB.out | apply below_alloc | apply pw_below_drewN | apply below_drew1 | refine below_set ?_ GE240.out) | exact HB.out)⟩⟩
                    case round =>
                      clear H'
                      try clear c1
                      try clear c2
                      try clear c2b0
                      try clear p2
                      try clear q2
                      try clear hx2
                      try clear c3
                      try clear c3b0
                      try clear c4
                      try clear c4b0
                      try clear c6
                      try clear c10
                      try clear c10b0
                      try clear c10b1
                      try clear c12
                      try clear c12b0
                      try clear c12b1
                      try clear c16
                      try clear c17
                      try clear hcz11_0
                      try clear hcz11_1
                      try clear hcz11_2
                      try clear hcz11_3
                      try clear hcz11_4
                      try clear hcz11_5
                      try clear hcz11_6
                      try clear hcz11_7
                      try clear hcz11_8
                      try clear hcz13_0
                      try clear hcz13_1
                      try clear hcz13_2
                      try clear hcz13_3
                      try clear hcz13_4
                      try clear hcz13_5
                      try clear hcz13_6
                      try clear hcz13_7
                      try clear hcz13_8
                      try clear hcz14_0
                      try clear hcz14_1
                      try clear hcz14_2
                      try clear hcz14_3
                      try clear hcz14_4
                      try clear hcz14_5
                      try clear hcz14_6
                      try clear hcz14_7
                      try clear hcz14_8
                      try clear hcz18_0
                      try clear hcz18_1
                      try clear hcz18_2
                      try clear hcz18_3
                      try clear hcz18_4
                      try clear hcz18_5
                      try clear hcz18_6
                      try clear hcz18_7
                      try clear hcz18_8
                      try clear hcz8_0
                      try clear hcz8_1
                      try clear hcz8_2
                      try clear hcz8_3
                      try clear hcz8_4
                      try clear hcz8_5
                      try clear hcz8_6
                      try clear hcz8_7
                      try clear hcz8_8
                      try clear hfz11_0
                      try clear hfz11_1
                      try clear hfz11_2
                      try clear hfz11_3
                      try clear hfz11_4
                      try clear hfz11_5
                      try clear hfz11_6
                      try clear hfz11_7
                      try clear hfz11_8
                      try clear hfz13_0
                      try clear hfz13_1
                      try clear hfz13_2
                      try clear hfz13_3
                      try clear hfz13_4
                      try clear hfz13_5
                      try clear hfz13_6
                      try clear hfz13_7
                      try clear hfz13_8
                      try clear hfz14_0
                      try clear hfz14_1
                      try clear hfz14_2
                      try clear hfz14_3
                      try clear hfz14_4
                      try clear hfz14_5
                      try clear hfz14_6
                      try clear hfz14_7
                      try clear hfz14_8
                      try clear hfz18_0
                      try clear hfz18_1
                      try clear hfz18_2
                      try clear hfz18_3
                      try clear hfz18_4
                      try clear hfz18_5
                      try clear hfz18_6
                      try clear hfz18_7
                      try clear hfz18_8
                      try clear hfz8_0
                      try clear hfz8_1
                      try clear hfz8_2
                      try clear hfz8_3
                      try clear hfz8_4
                      try clear hfz8_5
                      try clear hfz8_6
                      try clear hfz8_7
                      try clear hfz8_8
                      try clear hx239_0
                      try clear hx239_1
                      try clear hx239_2
                      try clear hx239_3
                      try clear hx239_4
                      try clear hx239_5
                      try clear hx239_6
                      try clear hx239_7
                      try clear hx239_8
                      try clear p2
                      try clear p239
                      try clear q2
                      try clear q239
                      obtain ⟨x3_4, x38_4, rfl, HA, HK4, HO_3, HO_36, BK240, HB⟩ := hrel
                      cases gk with
                      | zero => exact absurd HA.out (by simp [rostrumref12_Free.l1])
                      | succ k4 =>
                        have H := HA.out
                        clear HA
                        simp only [rostrumref12_Free.l1] at H
                        by_cases c21 : x38_4 < (x6_14.length : Int)
                        · rw [if_pos c21] at H
                          have c21b0 : decide (x38_4 < (x6_14.length : Int)) = true := decide_eq_true c21
                          clear c21
                          by_cases c22 : 0 ≤ x38_4
                          · rw [if_pos c22] at H
                            have c22b0 : decide (0 ≤ x38_4) = true := decide_eq_true c22
                            clear c22
                            by_cases c23 : x38_4 < (x6_14.length : Int)
                            · rw [if_pos c23] at H
                              have c23b0 : decide (x38_4 < (x6_14.length : Int)) = true := decide_eq_true c23
                              clear c23
                              replace H := Option.bind_eq_some_iff.mp H
                              obtain ⟨t248, A240, H⟩ := H
                              replace H : (rostrumref12_Free.l1 k4 t248 l0 (l0.length : Int) x11_1 x6_14 (x6_14.length : Int) (wrap64 (x38_4 + 1))) = some r := H
                              have A24 := Aside0.mk A240
                              clear A240
                              have H' := Aside0.mk H
                              clear H
                              have p247 : 0 ≤ (x38_4 : Int) := of_decide_eq_true (by first | (with_reducible assumption) | assumption)
                              have q247 : x38_4 < (x6_14.length : Int) := of_decide_eq_true (by first | (with_reducible assumption) | assumption)
                              obtain ⟨ad247, e247, hx247_0⟩ := Kd.at_string (Kd.R_reads' HO_36.out).2.2 x38_4 p247 q247
                              cases e247
                              replace p247 := eq_true p247
                              replace q247 := eq_true q247
                              obtain ⟨Ao25, co25, eo25⟩ := Kd.R_slice HO_3.out
                              subst eo25
                              go_wp2_with (first | ((with_reducible refine gate_callee (f := 13) rfl ?_); refine goesL_ (some 44) rfl rfl Try.func13 (by kernel_rfl) rfl #[.slice Ao25 x3_4.length co25, .string (rdOf ByteArray.empty x6_14 x38_4)] rfl (by (try simp only [List.map_toArray, List.map_cons, List.map_nil]); first | done | rfl | (simp only [List.length_drop, List.length_take]; rfl)) ?_; (with_reducible refine (rostrumref12_with.calls k4 (fun k_ => some k_ = (.slice Ao25 x3_4.length co25 : Value).ownBlock) (.slice Ao25 x3_4.length co25) x3_4 (rdOf ByteArray.empty x6_14 x38_4) t248 w _ ?side1 ?side2 A24.out).mono ?_); (case side1 => repeat (first | (with_reducible first | exact HB.out | apply below_alloc | apply pw_below_drewN | apply below_drew1 | refine below_set ?_ GE240.out) | exact HB.out)); (case side2 => exact Kd.R_tight rfl HO_3.out); rintro e w26 ⟨v249, rfl, ho0, hb, hkp⟩; refine ⟨_, rfl, ?_⟩; have n0_ := Aside0.mk (Kd.R_mono (ok' := fun k_ => some k_ ≠ (v249 : Value).ownBlock) (Kd.R_keptB (HO_36.out) hkp (fun k_ hk_ hs_ => (hk_) hs_)) (fun k_ hk_ => fun e_ => Or.elim (ho0.1 k_ e_.symm) (fun hs_ => hk_.2.1 hs_) (fun hn_ => Nat.not_le.2 hk_.2.2 hn_))); have n1_ := Aside0.mk (blk_kept (by (with_reducible repeat (first | refine blk_drewN ?_ _ | refine blk_drew ?_ | refine blk_alloc ?_ _)); exact BK240.out) hkp (fun hs_ => (fun e_ => (Kd.R_ne HO_3.out BK240.out (by decide)) e_) hs_)); have n2_ := Aside0.mk (Kd.R_mono (ok' := fun k_ => some k_ ≠ (.slice (some ad247) x6_14.length co20 : Value).ownBlock) ho0 (fun k_ hk_ => Or.elim hk_ (fun hs_ => fun e_ => (((HO_36.out).1 k_ e_.symm)) hs_) (fun hn_ => (Kd.fresh' (Kd.R_lt (by (with_reducible repeat (first | apply Kd.R_alloc | apply Kd.R_drewN | apply Kd.R_drew)); exact HO_36.out)) k_ hn_)))); have n3_ := Aside0.mk (hb); clear HO_36; clear BK240; clear HB; clear HO_3; have HO_36 := n0_; have BK240 := n1_; have HO250 := n2_; have HB := n3_; clear n0_ n1_ n2_ n3_; (try clear hb); (try clear hkp); (try clear ho0)))
                              go_roundg k4
                              case measure => have := HK1.out; have := HJ5.out; have := HJ14.out; have := HK4.out; omega
                              case rel => exact ⟨(t248), (wrap64 (x38_4 + 1)), (by first | rfl | (simp; done) | (simp [*]; done)), H', ⟨by have := HK1.out; have := HJ5.out; have := HJ14.out; have := HK4.out; omega⟩, ⟨by (with_reducible repeat (first | apply Kd.R_alloc | apply Kd.R_drewN | apply Kd.R_drew)); exact HO250.out⟩, ⟨by (with_reducible repeat (first | apply Kd.R_alloc | apply Kd.R_drewN | apply Kd.R_drew)); exact HO_36.out⟩, ⟨by (with_reducible repeat (first | refine blk_drewN ?_ _ | refine blk_drew ?_ | refine blk_alloc ?_ _)); exact BK240.out⟩, ⟨by repeat (first | (with_reducible first | exact HB.out | apply below_alloc | apply pw_below_drewN | apply below_drew1 | refine below_set ?_ GE240.out) | exact HB.out)⟩⟩
                            · rw [if_neg c23] at H
                              exact absurd H (by simp)
                          · rw [if_neg c22] at H
                            exact absurd H (by simp)
                        · rw [if_neg c21] at H
                          have c21b0 : decide (x38_4 < (x6_14.length : Int)) = false := decide_eq_false c21
                          clear c21
                          have H' := Aside0.mk H
                          clear H
                          go_wp2
                          go_roundg k4
                          case measure => have := HK1.out; have := HJ5.out; have := HJ14.out; have := HK4.out; omega
                          case rel => exact ⟨(x3_4), (wrap64 (x11_1 + 1)), (by first | rfl | (simp; done) | (simp [*]; done)), H', ⟨by have := HK1.out; have := HJ5.out; have := HJ14.out; have := HK4.out; omega⟩, ⟨by (with_reducible repeat (first | apply Kd.R_alloc | apply Kd.R_drewN | apply Kd.R_drew)); exact Kd.R_mono HO_3.out (fun _ hk => trivial)⟩, ⟨by repeat (first | (with_reducible first | exact HB.out | apply below_alloc | apply pw_below_drewN | apply below_drew1 | refine below_set ?_ GE240.out) | exact HB.out)⟩⟩
          · rw [if_neg c4] at H
            exact absurd H (by simp)
        · rw [if_neg c3] at H
          exact absurd H (by simp)
      · rw [if_neg c2] at H
        have c2b0 : decide (x11_1 < (l0.length : Int)) = false := decide_eq_false c2
        clear c2
        obtain rfl := Option.some.inj H
        go_wp2
        go_ret
        exact ⟨_, by first | rfl | (simp [errW_none, errW_some] <;> rfl) | (simp [*, errW_none, errW_some] <;> rfl), by (with_reducible repeat (first | apply Kd.R_alloc | apply Kd.R_drewN | apply Kd.R_drew)); exact HO_3.out, by repeat (first | (with_reducible first | exact HB.out | apply below_alloc | apply pw_below_drewN | apply below_drew1) | exact HB.out)⟩

end Go.Proofs.Ytcafjeehllkpiaa.D
