/- The law NumberTexts, walked: it returns true. -/
import Derived.Test.YtlnneellihkdkaaDoorHRefB
namespace Go.Proofs.YtlnneellihkdkaaDoor.D
open Go.RowKit Go.Proofs.YtlnneellihkdkaaDoorW.PrintWords Go.Proofs.YtlnneellihkdkaaDoorW.PrintLast Go.Proofs.YtlnneellihkdkaaDoorW.PrintMore
set_option linter.unusedVariables false
set_option linter.unusedSimpArgs false

theorem smallr_calls (s : ByteArray) (hs : s.size ≤ 9223372036854775807) (w : World) : Calls Tryd.prog 10 #[.string s] w fun e w' => e = .returned (.tuple #[.int .i64 (smallU s.data.toList).1, .bool (smallU s.data.toList).2]) ∧ Below w.heap.size w w' := by
  obtain ⟨k, hk⟩ := Ev.rounds (small_ref s hs)
  exact rostrumref09_Small.calls k s _ _ w hk
theorem ofr_calls (n : Int) (h0 : -9223372036854775808 ≤ n) (h1 : n ≤ 9223372036854775807) (w : World) : Calls Tryd.prog 14 #[.int .i64 n] w fun e w' => e = .returned (.string (baU (Lib.itoa n))) ∧ Below w.heap.size w w' := by
  obtain ⟨k, hk⟩ := Ev.rounds (of_ref_ev n h0 h1)
  exact rostrumref09_Of.calls k n _ w hk
theorem canr_calls (s : ByteArray) (hs : s.size ≤ 9223372036854775807) (w : World) : Calls Tryd.prog 13 #[.string s] w fun e w' => e = .returned (.bool (N.canU s.data.toList)) ∧ Drawn0 w w' := by
  obtain ⟨k, hk⟩ := Ev.rounds (can_ref_u s hs)
  exact rostrumref09_Can.calls k s _ w hk
theorem small_of (n : Int) (h0 : -9223372036854775808 ≤ n) (h1 : n ≤ 9223372036854775807) : smallU (baU (Lib.itoa n)).data.toList = (n, true) ∧ (baU (Lib.itoa n)).size ≤ 140737488355328 := by
  have hpow : (9223372036854775809 : Nat) < 10 ^ 200 := by decide
  obtain ⟨hc, hv⟩ := N.can_itoa n (by omega)
  have hl := (can_len hc).2
  rw [baU_list, baU_size]
  refine ⟨?_, by omega⟩
  unfold smallU
  rw [if_pos hc, hv, if_pos (by simp [N.inInt]; omega)]

set_option maxHeartbeats 2000000 in
theorem texts_calls (s : ByteArray) (hs : s.size ≤ 140737488355328) (n : Int) (h0 : -9223372036854775808 ≤ n) (h1 : n ≤ 9223372036854775807) (w : World) (hL : LaidW w) :
    Calls Tryd.prog 3 #[.string s, .int .i64 n] w fun e w' => e = .returned (.bool true) ∧ Below w.heap.size w w' := by
  obtain ⟨e3, l3⟩ := small_of n h0 h1
  have HE := Aside0.mk e3
  have HL := Aside0.mk hL
  have Hl := Aside0.mk l3
  have HS := Aside0.mk hs
  have H0 := Aside0.mk h0
  have H1 := Aside0.mk h1
  clear e3 l3 hL hs h0 h1
  go_enter Tryd.func3, Tryd.ntmps3
  go_wp2_with fail
  refine (small_calls s HS.out _ HL.out).mono ?_
  rintro e w1 ⟨rfl, hb⟩
  have HB1 := Aside0.mk hb
  have HL1 := Aside0.mk (HL.out.below hb (Nat.le_refl _))
  clear hb
  go_wp2_with fail
  refine (smallr_calls s (by have := HS.out; omega) _).mono ?_
  rintro e w2 ⟨rfl, hb⟩
  have HB2 := Aside0.mk (below_step HB1.out hb)
  have HL2 := Aside0.mk (HL1.out.below hb (Nat.le_refl _))
  clear hb
  go_wp2_with fail
  refine (of_calls n H0.out H1.out _ HL2.out).mono ?_
  rintro e w3 ⟨rfl, hb⟩
  have HB3 := Aside0.mk (below_step HB2.out hb)
  have HL3 := Aside0.mk (HL2.out.below hb (Nat.le_refl _))
  clear hb
  go_wp2_with fail
  refine (small_calls _ Hl.out _ HL3.out).mono ?_
  rintro e w4 ⟨rfl, hb⟩
  have HB4 := Aside0.mk (below_step HB3.out hb)
  have HL4 := Aside0.mk (HL3.out.below hb (Nat.le_refl _))
  clear hb
  rw [HE.out]
  generalize smallU s.data.toList = q
  go_wp2_with fail
  refine (can_calls s (by have := HS.out; omega) _).mono ?_
  rintro e w5 ⟨rfl, hd⟩
  have HB5 := Aside0.mk (show Below w.heap.size w w5 by obtain ⟨nd, rfl⟩ := hd; exact pw_below_drewN HB4.out _)
  have HL5 := Aside0.mk (HL4.out.drawn hd)
  clear hd
  go_wp2_with fail
  refine (canr_calls s (by have := HS.out; omega) _).mono ?_
  rintro e w6 ⟨rfl, hd⟩
  have HB6 := Aside0.mk (show Below w.heap.size w w6 by obtain ⟨nd, rfl⟩ := hd; exact pw_below_drewN HB5.out _)
  have HL6 := Aside0.mk (HL5.out.drawn hd)
  clear hd
  go_wp2_with fail
  refine (of_calls n H0.out H1.out _ HL6.out).mono ?_
  rintro e w7 ⟨rfl, hb⟩
  have HB7 := Aside0.mk (below_step HB6.out hb)
  clear hb
  go_wp2_with fail
  refine (ofr_calls n H0.out H1.out _).mono ?_
  rintro e w8 ⟨rfl, hb⟩
  have HB8 := Aside0.mk (below_step HB7.out hb)
  clear hb
  go_wp2_with fail
  go_ret
  exact ⟨by simp, HB8.out⟩
end Go.Proofs.YtlnneellihkdkaaDoor.D
