/- number.Sub. -/
import Derived.Test.YtlnneellihkdkaaDoorDx15
import Derived.Test.YtlnneellihkdkaaDoorHText
namespace Go.Proofs.YtlnneellihkdkaaDoor.D
open Go Go.Proofs Go.RowKit Go.Shelf Go.Proofs.YtlnneellihkdkaaDoorW.PrintWords Go.Proofs.YtlnneellihkdkaaDoorW.PrintLast Go.Proofs.YtlnneellihkdkaaDoorW.PrintMore
set_option linter.unusedVariables false
set_option linter.unusedSimpArgs false

theorem two_new (w : World) (o o' : Obj) : Below w.heap.size w ((w.alloc o).alloc o') := ((Below.refl _ w).alloc (Nat.le_refl _) _).alloc (by simp) _
theorem sv_not (l : List Int) (b : Bool) : sv G l (!b) = -(sv G l b) := by cases b <;> simp [sv]
set_option maxRecDepth 100000 in
set_option maxHeartbeats 2000000 in
theorem sub_calls (a b : ByteArray) (ha : a.size ≤ 9223372036854775807) (hb : b.size ≤ 9223372036854775807) (w : World) (hL : LaidW w) :
    Calls Tryd.prog 18 #[.string a, .string b] w fun e w' => e = .returned (ansV (opO (· - ·) a b)) ∧ Below w.heap.size w w' := by
  have HL := Aside0.mk hL
  clear hL
  cases hca : N.canU a.data.toList
  · go_enter_defers Tryd.func18, Tryd.ntmps18
    go_wp2_with (go_at_call 33; with_reducible refine (parse_bad a ha hca _).mono ?_; rintro e w' ⟨rfl, hB⟩)
    obtain ⟨hs, he, hBw⟩ := door_new hB
    rw [opO_none_l hca]
    exact door_panic _ rfl _ w.heap.size rfl rfl _ hs he 90 _ (fun W' hW => ⟨rfl, hBw.trans hW⟩)
  cases hcb : N.canU b.data.toList
  · go_enter_defers Tryd.func18, Tryd.ntmps18
    go_wp2_with (first
      | (go_at_call 33; with_reducible refine (parse_bad b hb hcb _).mono ?_; rintro e w' ⟨rfl, hB2⟩)
      | (go_at_call 33; with_reducible refine (parse_ok a ha hca _).mono ?_; rintro e w' ⟨A, c, rfl, hV, hB⟩))
    obtain ⟨hs, he, hBw⟩ := door_new (hB.trans (hB2.mono hB.size))
    rw [opO_none_r hcb]
    exact door_panic _ rfl _ w.heap.size rfl rfl _ hs he 90 _ (fun W' hW => ⟨rfl, hBw.trans hW⟩)
  rw [opO_some hca hcb]
  obtain ⟨la1, la2, la3, la4⟩ := limbs_val hca
  obtain ⟨lb1, lb2, lb3, lb4⟩ := limbs_val hcb
  obtain ⟨r, nr, hEv, hr1, hr2, hr3⟩ := add_prog_ev (limbsU a.data.toList) (limbsU b.data.toList) (negU a.data.toList) (!(negU b.data.toList)) la2 lb2 (by omega) (by omega)
  rw [sv_not, sv_val hca, sv_val hcb] at hr2
  replace hr2 : sv G r nr = N.valU a.data.toList - N.valU b.data.toList := by omega
  obtain ⟨k, hk⟩ := hEv.rounds
  have HK := Aside0.mk hk
  have HR := Aside0.mk hr1
  clear hEv hk
  have HA := Aside0.mk la2
  by_cases h2 : (Lib.decDigits (N.valU a.data.toList - N.valU b.data.toList).natAbs).length ≤ 200
  · have hnum : numE (sv G r nr) = .returned (.string (baU (Lib.itoa (N.valU a.data.toList - N.valU b.data.toList)))) := by rw [hr2]; unfold numE; rw [if_pos h2]
    have hans : ansV (some (N.valU a.data.toList - N.valU b.data.toList)) = .tuple #[.string (baU (Lib.itoa (N.valU a.data.toList - N.valU b.data.toList))), .int .i64 0] := ansV_ok h2
    rw [hans]
    generalize Lib.itoa (N.valU a.data.toList - N.valU b.data.toList) = it at *
    go_enter_defers Tryd.func18, Tryd.ntmps18
    go_wp2_with (first
      | (go_at_call 33; with_reducible refine (parse_ok a ha hca _).mono ?_; rintro e w1 ⟨A, c, rfl, hV, hB⟩)
      | (go_at_call 33; with_reducible refine (parse_ok b hb hcb _).mono ?_; rintro e w2 ⟨A2, c2, rfl, hV2, hB2⟩)
      | (go_at_call 32; refine (number_add.calls k A c _ _ A2 c2 _ _ r nr _ (Kd.V_reads' (Kd.V_below (Kd.V_below hV hB2) (two_new _ _ _))).2.2 (Kd.V_reads' hV).2.1 (Kd.V_reads' (Kd.V_below hV2 (two_new _ _ _))).2.2 (Kd.V_reads' hV2).2.1 HK.out).mono ?_; rintro e w3 ⟨v0, rfl, hR3, hB3⟩
         have hB03 := (hB.trans (hB2.mono hB.size)).trans (((two_new w2 _ _).trans (hB3.mono (by simp; omega))).mono (Nat.le_trans hB.size hB2.size))
         have hLw := HL.out.below (door_new hB03).2.2 (Nat.le_refl _))
      | (go_at_call 34; refine (text_R r nr HR.out (by omega) w3 hLw (Kd.R_V (base' := 0) hR3)).mono ?_; rintro e w4 ⟨he4, hB4⟩; rw [hnum] at he4; subst he4
         have hd := door_new (hB03.trans (hB4.mono hB03.size))
         have c0 := blk_cell hd.1 0
         have c1 := blk_cell hd.2.1 0
         have f0 := blk_frozen hd.1 0
         have f1 := blk_frozen hd.2.1 0
         simp only [List.getElem?_toArray, List.getElem?_cons_zero] at c0 c1))
    exact door_ok _ rfl _ w.heap.size rfl rfl _ _ _ (blk_far (set_cell_at hd.1) (by simp) _) (set_cell_at (blk_far hd.2.1 (by simp) _)) _ ⟨rfl, (hd.2.2.setCell (p := ⟨w.heap.size, 0, none⟩) (Nat.le_refl _) _).setCell (p := ⟨w.heap.size + 1, 0, none⟩) (Nat.le_succ _) _⟩
  · have hnum : numE (sv G r nr) = bigE := by rw [hr2]; unfold numE; rw [if_neg h2]
    rw [ansV_big h2]
    go_enter_defers Tryd.func18, Tryd.ntmps18
    go_wp2_with (first
      | (go_at_call 33; with_reducible refine (parse_ok a ha hca _).mono ?_; rintro e w1 ⟨A, c, rfl, hV, hB⟩)
      | (go_at_call 33; with_reducible refine (parse_ok b hb hcb _).mono ?_; rintro e w2 ⟨A2, c2, rfl, hV2, hB2⟩)
      | (go_at_call 32; refine (number_add.calls k A c _ _ A2 c2 _ _ r nr _ (Kd.V_reads' (Kd.V_below (Kd.V_below hV hB2) (two_new _ _ _))).2.2 (Kd.V_reads' hV).2.1 (Kd.V_reads' (Kd.V_below hV2 (two_new _ _ _))).2.2 (Kd.V_reads' hV2).2.1 HK.out).mono ?_; rintro e w3 ⟨v0, rfl, hR3, hB3⟩
         have hB03 := (hB.trans (hB2.mono hB.size)).trans (((two_new w2 _ _).trans (hB3.mono (by simp; omega))).mono (Nat.le_trans hB.size hB2.size))
         have hLw := HL.out.below (door_new hB03).2.2 (Nat.le_refl _))
      | (go_at_call 34; refine (text_R r nr HR.out (by omega) w3 hLw (Kd.R_V (base' := 0) hR3)).mono ?_; rintro e w4 ⟨he4, hB4⟩; rw [hnum] at he4; subst he4))
    obtain ⟨hs, he, hBw⟩ := door_new (hB03.trans (hB4.mono hB03.size))
    exact door_panic _ rfl _ w.heap.size rfl rfl _ hs he 91 _ (fun W' hW => ⟨rfl, hBw.trans hW⟩)

end Go.Proofs.YtlnneellihkdkaaDoor.D
