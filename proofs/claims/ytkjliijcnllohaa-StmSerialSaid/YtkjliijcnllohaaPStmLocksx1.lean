-- PRINTED BY print.sh 35421559b90ae4d0a3588c463048766b98c2df88dd9212a6774a882060cdf62d: not written by this session
import Derived.Test.YtkjliijcnllohaaPStmLocksx0
namespace Go.Proofs.Ytkjliijcnllohaa.PStmLocks
open Go.RowKit Go.Proofs.YtkjliijcnllohaaW.PrintWords Go.Proofs.YtkjliijcnllohaaW.PrintLast Go.Proofs.YtkjliijcnllohaaW.PrintMore
attribute [local go_sem] max2_int min2_int max_two min_two max_three min_three max_four min_four   -- for this text's walks alone
set_option linter.unusedVariables false
set_option linter.unusedSimpArgs false

-- NOT PRINTED: function 42 (api_Slot_42)

-- NOT PRINTED: function 22 (api_Slot_22)

-- NOT PRINTED: function 35 (bytes_Clone)

-- NOT PRINTED: function 8 (stm_New)

-- NOT PRINTED: function 9 (stm_Space_Begin)

/-! ### stm_fit: function 34 -/
def stm_fit.f (a0 : ByteArray) : Option (Bool) := if a0.toList = ([] : List UInt8) then (some false) else (some (decide ((a0.size : Int) ≤ 11)))
set_option maxHeartbeats 8000000 in
set_option maxRecDepth 100000 in
theorem stm_fit.calls (a0 : ByteArray) (r : Bool) (w : World) (h : stm_fit.f a0 = some r) :
    Calls Try.prog 34 #[.string a0] w fun e w' => e = .returned (.bool r) ∧ Drawn0 w w' := by
  have H : (if a0.toList = ([] : List UInt8) then (some false) else (some (decide ((a0.size : Int) ≤ 11)))) = some r := h
  clear h
  by_cases c2 : a0.toList = ([] : List UInt8)
  · rw [if_pos c2] at H
    have c2b0 : (a0.toList == ([] : List UInt8)) = true := beq_iff_eq.mpr c2
    have c2b1 : (a0.toList != ([] : List UInt8)) = false := bne_eq_false_iff_eq.mpr c2
    clear c2
    obtain rfl := Option.some.inj H
    go_enter Try.func34, Try.ntmps34
    go_wp2
    go_ret
    exact ⟨by first | rfl | (simp; done) | (simp [*]; done), by repeat (first | exact Drawn0.refl _ | apply Drawn0.step)⟩
  · rw [if_neg c2] at H
    have c2b0 : (a0.toList == ([] : List UInt8)) = false := beq_eq_false_iff_ne.mpr c2
    have c2b1 : (a0.toList != ([] : List UInt8)) = true := bne_iff_ne.mpr c2
    obtain rfl := Option.some.inj H
    go_enter Try.func34, Try.ntmps34
    go_wp2
    go_ret
    exact ⟨by first | rfl | (simp; done) | (simp [*]; done), by repeat (first | exact Drawn0.refl _ | apply Drawn0.step)⟩

-- NOT PRINTED: function 36 (stm_Tx_in)

-- NOT PRINTED: function 10 (stm_Tx_Put)

-- NOT PRINTED: function 37 (stm_Space_at)

-- NOT PRINTED: function 39 (stm_Tx_end)

-- NOT PRINTED: function 38 (stm_Tx_clash)

-- NOT PRINTED: function 11 (stm_Tx_Lock)

-- NOT PRINTED: function 12 (stm_Tx_Get)

-- NOT PRINTED: function 13 (stm_Tx_Phase)

-- NOT PRINTED: function 14 (stm_Tx_Abort)

-- NOT PRINTED: function 15 (stm_Tx_Check)

-- NOT PRINTED: function 16 (stm_Tx_Publish)

-- NOT PRINTED: function 3 (rostrumlaw18_StmLocks)

end Go.Proofs.Ytkjliijcnllohaa.PStmLocks
