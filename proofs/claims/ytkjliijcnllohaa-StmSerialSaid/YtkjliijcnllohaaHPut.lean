/- stm: Abort, Put. -/
import Derived.Test.YtkjliijcnllohaaHTx
import Derived.Deep.RegionHeld3
import Derived.Deep.DrawnRows
namespace Go.Proofs.Ytkjliijcnllohaa.S
open Go.RowKit Go.Proofs.YtkjliijcnllohaaW.PrintWords Go.Proofs.YtkjliijcnllohaaW.PrintLast Go.Proofs.YtkjliijcnllohaaW.PrintMore
set_option linter.unusedVariables false
set_option linter.unusedSimpArgs false
attribute [local go_sem ↓] Go.wp_at_zero Go.wp_at_succ

theorem Reads.drewN {w : World} {v : Value} {xs : List Int} (h : Reads w v xs) (n : Nat) : Reads (w.drewN n) v xs := h
theorem MapIs.drewN {w : World} {b : Nat} {m : List (ByteArray × Value)} (h : MapIs w b m) (n : Nat) : MapIs (w.drewN n) b m := h
theorem TxAt.drewN {w : World} {t s br bw : Nat} {time phase : Int} (h : TxAt w t s time phase br bw) (n : Nat) : TxAt (w.drewN n) t s time phase br bw := h
theorem Fr.drewN {T : List Nat} (w : World) (n : Nat) : Fr T w (w.drewN n) := ⟨rfl, rfl, rfl, Nat.le_refl _, fun _ _ _ => rfl, fun _ _ _ h => h, fun _ c _ _ h => ⟨c, h⟩⟩
theorem but1_cell {b : Nat} {w w' : World} (h : But1 b w w') {t i : Nat} (hne : t ≠ b) : w'.cell? ⟨t, i, none⟩ = w.cell? ⟨t, i, none⟩ := by
  unfold World.cell?
  rw [h.block t hne]
theorem TxAt.ne_map {w : World} {t s br bw b : Nat} {time phase : Int} {m : List (ByteArray × Value)} (h : TxAt w t s time phase br bw) (hm : MapIs w b m) : t ≠ b := fun e => by
  obtain ⟨es, c, hb, _⟩ := hm
  unfold TxAt at h
  rw [e, hb] at h
  cases h
set_option maxRecDepth 100000 in
theorem abort_no {w : World} {t s br bw : Nat} {time phase : Int} (hT : TxAt w t s time phase br bw) (hp : 3 ≤ phase) :
    Calls Try.prog 14 #[ptr t] w fun e w' => e = .returned (.int .i64 3) ∧ w' = w := by
  have c0 := hT.c0
  have c2 := hT.c2
  have hb : decide (phase ≥ 3) = true := decide_eq_true hp
  unfold ptr
  clear hT hp
  go_enter Try.func14, Try.ntmps14
  go_wp2
  go_returns
  exact ⟨rfl, rfl⟩
set_option maxRecDepth 100000 in
theorem abort_yes {w : World} {t s bm br bw : Nat} {clock time phase : Int} {S : List Ent} (h : SpAt w s bm clock S) (hT : TxAt w t s time phase br bw) (hp : phase < 3) :
    Calls Try.prog 14 #[ptr t] w fun e w' => e = .returned (.int .i64 0) ∧ SpAt w' s bm clock (S.map (Ent.unlock t)) ∧ TxAt w' t s time 4 br bw ∧ Fr (t :: gs S) w w' := by
  have c0 := hT.c0
  have c2 := hT.c2
  have hb : decide (phase ≥ 3) = false := decide_eq_false (by omega)
  have H := Aside0.mk h
  have HT := Aside0.mk hT
  unfold ptr
  clear h hT hp
  go_enter Try.func14, Try.ntmps14
  go_wp2_with fail
  refine (end_calls H.out HT.out 4).mono ?_
  rintro e w1 ⟨rfl, h1⟩
  have H1 := Aside0.mk h1
  clear h1
  go_wp2
  go_returns
  exact ⟨rfl, H1.out⟩

set_option maxRecDepth 100000 in
set_option maxHeartbeats 2000000 in
theorem put_calls {w : World} {t s br bw : Nat} {time : Int} {m : List (ByteArray × Value)} (hT : TxAt w t s time 0 br bw) (hm : MapIs w bw m) (name : ByteArray) (hfit : fitB name = true) {v : Value} {xs : List Int} (hv : Reads w v xs) :
    Calls Try.prog 10 #[ptr t, .string name, v] w fun e w' => e = .returned (.int .i64 0) ∧ ∃ v', RowAt w' v' xs ∧ MapIs w' bw (put m name v') ∧ Fr [bw] w w' := by
  have HT := Aside0.mk hT
  have HM := Aside0.mk hm
  have HV := Aside0.mk hv
  have HF := Aside0.mk hfit
  have hlt := Aside0.mk hT.lt
  have HNE := Aside0.mk (hT.ne_map hm)
  clear hT hm hv hfit
  unfold ptr
  go_enter Try.func10, Try.ntmps10
  go_wp2_with fail
  refine (in_calls HT.out 0).mono ?_
  rintro e w1 ⟨rfl, rfl⟩
  go_wp2_with fail
  refine (fit_calls name _).mono ?_
  rintro e w1 ⟨rfl, ⟨nd, rfl⟩⟩
  rw [HF.out]
  go_wp2_with fail
  have hs0 : (w1.drewN nd).cell? ⟨t, 4, none⟩ = some (.map (some bw)) := HT.out.c4
  go_region_held3 (fun w' => w'.cell? ⟨t, 4, none⟩ = some (.map (some bw))) (assumption) (first | (go_at_call 35; refine (clone_calls (HV.out.drewN _)).mono ?_; rintro e w3 ⟨v', rfl, hr, hb⟩; have hk3 : w3.cell? ⟨t, 4, none⟩ = some (.map (some bw)) := (hb.cell hlt.out).trans hs0; obtain ⟨w4, hu, hm4, hb4⟩ := map_update (P := Try.prog) Try.underlying47 Try.underlying9 ((HM.out.drewN _).fr (Fr.ofBelow hb []) (by simp)) name v'; have hk4 : w4.cell? ⟨t, 4, none⟩ = some (.map (some bw)) := (but1_cell hb4 (HNE.out)).trans hk3; have HR3 := Aside0.mk hr; have HB3 := Aside0.mk hb; have HM4 := Aside0.mk (And.intro hm4 hb4); clear hr hb hm4 hb4))
  all_goals go_wp2
  all_goals go_returns
  have hfr : Fr [bw] w1 w4 := ((Fr.drewN w1 _).trans (Fr.ofBelow HB3.out _)).trans (Fr.but1 HM4.out.2 (((HM.out.drewN _).fr (Fr.ofBelow HB3.out []) (by simp)).norow))
  exact ⟨rfl, v', (HR3.out.fr (Fr.but1 HM4.out.2 (((HM.out.drewN _).fr (Fr.ofBelow HB3.out []) (by simp)).norow))), HM4.out.1, hfr⟩

set_option maxRecDepth 100000 in
theorem put_state {w : World} {t s br bw : Nat} {time phase : Int} (hT : TxAt w t s time phase br bw) (hp : phase ≠ 0) (name : ByteArray) (v : Value) :
    Calls Try.prog 10 #[ptr t, .string name, v] w fun e w' => e = .returned (.int .i64 3) ∧ w' = w := by
  have HT := Aside0.mk hT
  have HP := Aside0.mk hp
  clear hT hp
  unfold ptr
  go_enter Try.func10, Try.ntmps10
  go_wp2_with fail
  refine (in_calls HT.out 0).mono ?_
  rintro e w1 ⟨rfl, rfl⟩
  rw [if_neg HP.out]
  go_wp2_with fail
  go_returns
  exact ⟨rfl, rfl⟩
set_option maxRecDepth 100000 in
theorem put_name {w : World} {t s br bw : Nat} {time : Int} (hT : TxAt w t s time 0 br bw) (name : ByteArray) (hfit : fitB name = false) (v : Value) :
    Calls Try.prog 10 #[ptr t, .string name, v] w fun e w' => e = .returned (.int .i64 6) ∧ Fr [] w w' := by
  have HT := Aside0.mk hT
  have HF := Aside0.mk hfit
  clear hT hfit
  unfold ptr
  go_enter Try.func10, Try.ntmps10
  go_wp2_with fail
  refine (in_calls HT.out 0).mono ?_
  rintro e w1 ⟨rfl, rfl⟩
  go_wp2_with fail
  refine (fit_calls name _).mono ?_
  rintro e w1 ⟨rfl, ⟨nd, rfl⟩⟩
  rw [HF.out]
  go_wp2_with fail
  go_returns
  exact ⟨rfl, Fr.drewN _ _⟩
end Go.Proofs.Ytkjliijcnllohaa.S
