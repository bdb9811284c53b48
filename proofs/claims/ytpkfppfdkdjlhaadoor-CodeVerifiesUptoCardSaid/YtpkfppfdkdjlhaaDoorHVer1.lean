
/- code.Verify's look through the constants. -/
import Derived.Test.YtpkfppfdkdjlhaaDoorDx3
import Derived.Test.YtpkfppfdkdjlhaaDoorHPrint
namespace Go.Proofs.YtpkfppfdkdjlhaaDoor.D
open Go.RowKit Go.Proofs.YtpkfppfdkdjlhaaDoorW.PrintWords Go.Proofs.YtpkfppfdkdjlhaaDoorW.PrintLast Go.Proofs.YtpkfppfdkdjlhaaDoorW.PrintMore
set_option linter.unusedVariables false
set_option linter.unusedSimpArgs false

theorem can_f (x : S42) (hfit : Fit x) : datum_Can.f x.f0 x.f1 x.f2 x.f3 = some (rightB x 64) := by
  obtain ⟨k, t, l, u⟩ := x
  simp only [datum_Can.f, datum_right.f]
  rw [if_pos ⟨of_fit hfit, by omega, by omega⟩]
  rfl
set_option maxHeartbeats 1000000 in
set_option maxRecDepth 100000 in
theorem wrong18 (a : S42) (hr : Fit a) (va : List Value) (W : World) (ha : k42.K W a va) :
    Calls Tryd.prog 18 #[.agg va.toArray] W fun e W' => e = .returned (.bool (!rightB a 64)) ∧ Below W.heap.size W W' := by
  have hu24 := Tryd.underlying42
  obtain ⟨A2, c2, A3, c3, rfl, l2, g2, l3, g3⟩ := k42_open ha
  have HC := Aside0.mk (can_f a hr)
  have G2 := Aside0.mk g2
  have G3 := Aside0.mk g3
  clear ha g2 g3 hr
  show Calls Tryd.prog 18 #[.agg #[.int .i64 a.f0, .string a.f1, .slice A2 a.f2.length c2, .slice A3 a.f3.length c3]] W _
  go_enter Tryd.func18, Tryd.ntmps18
  go_wp2_with (go_at_call 19; refine (datum_Can.calls a.f0 a.f1 _ _ a.f2 _ _ a.f3 _ _ (Kd.C_alloc G2.out _) l2 (Kd.C_alloc G3.out _) l3 HC.out).mono ?_; rintro e w' ⟨rfl, hb⟩)
  have HB := Aside0.mk (below_step (below_alloc (Below.refl W.heap.size W) _) hb)
  clear hb
  go_ret
  exact ⟨rfl, HB.out⟩

set_option maxHeartbeats 1000000 in
set_option maxRecDepth 100000 in
theorem indexg (l : List S42) (hf : ∀ i : Nat, i < l.length → Fit (rd_T42 l i)) (A : Option Addr) (c : Nat) (w : World)
    (h1 : Kd.C k42 w A l.length l) :
    Calls Tryd.prog 33 #[.slice A l.length c, .func (.func 18) #[] #[]] w fun e w' => e = .returned (.int .i64 (wrongAt l 64)) ∧ Below w.heap.size w w' := by
  have hu24 := Tryd.underlying42
  have hmx := Kd.C_max h1
  have H1 := Aside0.mk h1
  have HF := Aside0.mk hf
  clear h1 hf
  go_enter Tryd.func33, Tryd.ntmps33
  go_wp2_with fail
  go_loopw [8] (fun v8 wr => ∃ i : Nat, v8 = .int .i64 i ∧ Aside0 (i ≤ l.length) ∧ Aside0 (∀ j : Nat, j < i → (!rightB (rd_T42 l j) 64) = false) ∧ Aside0 (Below w.heap.size w wr)) (fun v8 wr => l.length - (intOf v8).toNat)
  case atStart => exact ⟨0, rfl, ⟨Nat.zero_le _⟩, ⟨fun j h => by omega⟩, ⟨Below.refl _ _⟩⟩
  case round =>
    obtain ⟨i, rfl, hi, hs, HB⟩ := hrel
    by_cases hlt : i < l.length
    · have hlt' : ((i : Int) < (l.length : Int)) := by omega
      have hltb : decide ((i : Int) < (l.length : Int)) = true := decide_eq_true hlt'
      obtain ⟨ad, B2, d2, B3, d3, e1, x0, x1, x2, x3, ll2, hi2, ll3, hi3⟩ := at_T42 H1.out i (by omega) (by omega)
      cases e1
      replace x0 := (HB.out.cell (World.block_lt_of_cell? w _ x0)).trans x0
      replace x1 := (HB.out.cell (World.block_lt_of_cell? w _ x1)).trans x1
      replace x2 := (HB.out.cell (World.block_lt_of_cell? w _ x2)).trans x2
      replace x3 := (HB.out.cell (World.block_lt_of_cell? w _ x3)).trans x3
      simp only [Int.toNat_natCast] at x0 x1 x2 x3
      have HK := Aside0.mk (k42_mk wr (rd_T42 l i) ll2 (Kd.C_below hi2 HB.out) ll3 (Kd.C_below hi3 HB.out))
      clear hi2 hi3 ll2 ll3
      go_wp2_with fail
      clear x0 x1 x2 x3
      refine (wrong18 (rd_T42 l i) (HF.out i hlt) [_, _, _, _] _ HK.out).mono ?_
      rintro e w' ⟨rfl, hb⟩
      have HB2 := Aside0.mk (below_step HB.out hb)
      clear hb
      cases hsm : rightB (rd_T42 l i) 64 with
      | true =>
        have hq := Aside0.mk (show ∀ j : Nat, j < i + 1 → (!rightB (rd_T42 l j) 64) = false from fun j hj => by
          rcases Nat.lt_or_ge j i with h | h
          · exact hs.out j h
          · obtain rfl : j = i := by omega
            rw [hsm]; rfl)
        clear hsm
        go_wp2_with fail
        go_roundw
        case rel => exact ⟨i + 1, by go_num, ⟨hlt⟩, hq, HB2⟩
        case measure => simp [intOf]; omega
      | false =>
        have hq : Aside0 (wrongAt l 64 = i) := ⟨by unfold wrongAt; rw [findIdx_go l _ i hlt hs.out (by rw [hsm]; rfl)]⟩
        clear hsm
        go_wp2_with fail
        go_ret
        exact ⟨by rw [hq.out]; rfl, HB2.out⟩
    · have hltb : decide ((i : Int) < (l.length : Int)) = false := decide_eq_false (by omega)
      have hz : Aside0 (wrongAt l 64 = -1) := ⟨by
        unfold wrongAt
        have : l.findIdx? (fun a => !rightB a 64) = none := by
          rw [List.findIdx?_eq_none_iff]
          intro x hx
          obtain ⟨j, hj, rfl⟩ := List.getElem_of_mem hx
          have := hs.out j (by omega)
          rw [rd_cast' hj] at this
          exact this
        rw [this]⟩
      go_wp2_with fail
      go_ret
      exact ⟨by rw [hz.out]; rfl, HB.out⟩

set_option maxHeartbeats 1000000 in
theorem containsg (l : List S42) (hf : ∀ i : Nat, i < l.length → Fit (rd_T42 l i)) (A : Option Addr) (c : Nat) (w : World)
    (h1 : Kd.C k42 w A l.length l) :
    Calls Tryd.prog 20 #[.slice A l.length c, .func (.func 18) #[] #[]] w fun e w' => e = .returned (.bool (!rightL l 64)) ∧ Below w.heap.size w w' := by
  have HC := Aside0.mk (indexg l hf A c w h1)
  have hw := Aside0.mk (wrongAt_ge l 64)
  clear h1 hf
  go_enter Tryd.func20, Tryd.ntmps20
  go_wp2_with fail
  refine HC.out.mono ?_
  rintro e w' ⟨rfl, hb⟩
  have HB := Aside0.mk hb
  clear hb
  go_wp2_with fail
  go_ret
  exact ⟨by rw [← hw.out]; rfl, HB.out⟩

end Go.Proofs.YtpkfppfdkdjlhaaDoor.D
