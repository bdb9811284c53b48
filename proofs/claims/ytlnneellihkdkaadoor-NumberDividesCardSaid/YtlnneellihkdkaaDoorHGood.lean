/- Good answers. -/
import Derived.Test.YtlnneellihkdkaaDoorHText
import Derived.Test.YtlnneellihkdkaaDoorHAns
namespace Go.Proofs.YtlnneellihkdkaaDoor.D
open Go Go.Proofs Go.RowKit Go.Shelf Go.Proofs.YtlnneellihkdkaaDoorW.PrintWords Go.Proofs.YtlnneellihkdkaaDoorW.PrintLast Go.Proofs.YtlnneellihkdkaaDoorW.PrintMore
set_option linter.unusedVariables false
set_option linter.unusedSimpArgs false

theorem ansV_sz {o : Option Int} {s : ByteArray} {n : Int} (h : ansV o = .tuple #[.string s, .int .i64 n]) : s.size ≤ 9223372036854775807 := by
  cases o with
  | none => cases h; decide
  | some z =>
    by_cases h2 : (Lib.decDigits z.natAbs).length ≤ 200
    · rw [ansV_ok h2] at h
      cases h
      have hab : z.natAbs < 10 ^ 200 := by
        have := N.dv_lt _ (N.dec_all z.natAbs)
        rw [N.dv_dec] at this
        exact Nat.lt_of_lt_of_le this (Nat.pow_le_pow_right (by omega) h2)
      have := can_len (N.can_itoa z hab).1
      have e : (baU (Lib.itoa z)).size = (Lib.itoa z).length := by simp [baU, ByteArray.size]
      omega
    · rw [ansV_big h2] at h
      cases h; decide
/-- a good answer: both are numbers, and the text is the result's -/
theorem ans_good {F : Int → Int → Int} {a b s : ByteArray} (h : ansV (opO F a b) = .tuple #[.string s, .int .i64 0]) :
    N.canU a.data.toList = true ∧ N.canU b.data.toList = true ∧ (Lib.decDigits (F (N.valU a.data.toList) (N.valU b.data.toList)).natAbs).length ≤ 200 ∧ s = baU (Lib.itoa (F (N.valU a.data.toList) (N.valU b.data.toList))) := by
  cases hca : N.canU a.data.toList
  · rw [opO_none_l hca] at h; cases h
  cases hcb : N.canU b.data.toList
  · rw [opO_none_r hcb] at h; cases h
  rw [opO_some hca hcb] at h
  by_cases h2 : (Lib.decDigits (F (N.valU a.data.toList) (N.valU b.data.toList)).natAbs).length ≤ 200
  · rw [ansV_ok h2] at h
    exact ⟨rfl, rfl, h2, by cases h; rfl⟩
  · rw [ansV_big h2] at h; cases h
theorem good_val {z : Int} (h2 : (Lib.decDigits z.natAbs).length ≤ 200) : N.canU (baU (Lib.itoa z)).data.toList = true ∧ N.valU (baU (Lib.itoa z)).data.toList = z := by
  have hab : z.natAbs < 10 ^ 200 := by
    have := N.dv_lt _ (N.dec_all z.natAbs)
    rw [N.dv_dec] at this
    exact Nat.lt_of_lt_of_le this (Nat.pow_le_pow_right (by omega) h2)
  rw [baU_list]
  exact N.can_itoa z hab
end Go.Proofs.YtlnneellihkdkaaDoor.D
