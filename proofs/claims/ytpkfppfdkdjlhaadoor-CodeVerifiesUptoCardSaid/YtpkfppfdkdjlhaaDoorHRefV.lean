
/- The reference's Verify. -/
import Derived.Test.YtpkfppfdkdjlhaaDoorDx10
import Derived.Test.YtpkfppfdkdjlhaaDoorHRef4
import Derived.Test.YtpkfppfdkdjlhaaDoorHVer2
namespace Go.Proofs.YtpkfppfdkdjlhaaDoor.D
open Go Go.Proofs Go.RowKit Go.Proofs.YtpkfppfdkdjlhaaDoorW.PrintWords Go.Proofs.YtpkfppfdkdjlhaaDoorW.PrintLast Go.Proofs.YtpkfppfdkdjlhaaDoorW.PrintMore
set_option linter.unusedVariables false
set_option linter.unusedSimpArgs false

theorem eq0_b (b : Int) : (b == 0) = (decide (0 ≤ b) && decide (b < 1)) := by
  rw [Bool.eq_iff_iff]; simp; omega
theorem in1 (a b n : Int) : (if a ≥ 0 then (if a < n then some (b == 0) else some false) else some false) = some (decide (0 ≤ a) && decide (a < n) && decide (0 ≤ b) && decide (b < 1)) := by
  rw [eq0_b]
  by_cases h1 : a ≥ 0
  · by_cases h2 : a < n
    · rw [if_pos h1, if_pos h2, decide_eq_true h1, decide_eq_true h2]; rfl
    · rw [if_pos h1, if_neg h2, decide_eq_false h2]; simp
  · rw [if_neg h1, decide_eq_false (show ¬ 0 ≤ a from h1)]; rfl
theorem in2 (a b n m : Int) (n1 m1 : Int) (hn : n1 = n + 1) (hm : m1 = m + 1) : (if a ≥ 0 then (if a ≤ n then (if b ≥ 0 then some (decide (b ≤ m)) else some false) else some false) else some false) = some (decide (0 ≤ a) && decide (a < n1) && decide (0 ≤ b) && decide (b < m1)) := by
  have e : ∀ c d : Int, decide (c ≤ d) = decide (c < d + 1) := fun c d => by rw [decide_eq_decide]; omega
  subst hn hm
  by_cases h1 : a ≥ 0
  · by_cases h2 : a ≤ n
    · by_cases h3 : b ≥ 0
      · rw [if_pos h1, if_pos h2, if_pos h3, decide_eq_true h1, decide_eq_true (show a < n + 1 by omega), decide_eq_true (show 0 ≤ b from h3), e]; rfl
      · rw [if_pos h1, if_pos h2, if_neg h3, decide_eq_false (show ¬ 0 ≤ b from h3)]; simp
    · rw [if_pos h1, if_neg h2, decide_eq_false (show ¬ a < n + 1 by omega)]; simp
  · rw [if_neg h1, decide_eq_false (show ¬ 0 ≤ a from h1)]; rfl
theorem in3 (a b n m m1 : Int) (hm : m1 = m + 1) : (if a ≥ 0 then (if a < n then (if b ≥ 0 then some (decide (b ≤ m)) else some false) else some false) else some false) = some (decide (0 ≤ a) && decide (a < n) && decide (0 ≤ b) && decide (b < m1)) := by
  have := in2 a b (n - 1) m n m1 (by omega) hm
  rw [← this]
  by_cases h : a < n
  · rw [if_pos h, if_pos (show a ≤ n - 1 by omega)]
  · rw [if_neg h, if_neg (show ¬ a ≤ n - 1 by omega)]
theorem in4 (a b : Int) : (if a ≥ 0 then (if a ≤ 255 then some (b == 0) else some false) else some false) = some (decide (0 ≤ a) && decide (a < 256) && decide (0 ≤ b) && decide (b < 1)) := by
  rw [← in1 a b 256]
  by_cases h : a < 256
  · rw [if_pos h, if_pos (show a ≤ 255 by omega)]
  · rw [if_neg h, if_neg (show ¬ a ≤ 255 by omega)]
theorem in5 (a b : Int) : (if a = 0 then some (b == 0) else some false) = some (decide (0 ≤ a) && decide (a < 1) && decide (0 ≤ b) && decide (b < 1)) := by
  rw [← in1 a b 1]
  by_cases h : a = 0
  · rw [if_pos h, if_pos (show a ≥ 0 by omega), if_pos (show a < 1 by omega)]
  · rw [if_neg h]
    by_cases h1 : a ≥ 0
    · rw [if_pos h1, if_neg (show ¬ a < 1 by omega)]
    · rw [if_neg h1]
theorem instr_ev (I : List S40) (D : List S42) (Nm : List ByteArray) (x : S40) : Ev (fun k => rostrumref13_instr.f k I D Nm x.f0 x.f1 x.f2) (insB I.length D.length Nm.length x) := by
  refine ⟨3, fun k hk => ?_⟩
  obtain ⟨m, rfl⟩ : ∃ m, k = m + 1 + 1 + 1 := ⟨k - 3, by omega⟩
  obtain ⟨op, a, b⟩ := x
  show rostrumref13_instr.f (m + 1 + 1 + 1) I D Nm op a b = some (insB I.length D.length Nm.length ⟨op, a, b⟩)
  unfold insB
  by_cases h1 : op = 1
  · subst h1; exact in1 a b _
  by_cases h3 : op = 3
  · subst h3; exact in1 a b _
  by_cases h5 : op = 5
  · subst h5; exact in1 a b _
  by_cases h6 : op = 6
  · subst h6; exact in1 a b _
  by_cases h2 : op = 2
  · subst h2; exact in2 a b 100 16 101 17 rfl rfl
  by_cases h4 : op = 4
  · subst h4; exact in2 a b 100 16 101 17 rfl rfl
  by_cases h7 : op = 7
  · subst h7; exact in1 a b _
  by_cases h8 : op = 8
  · subst h8; exact in1 a b _
  by_cases h10 : op = 10
  · subst h10; exact in1 a b _
  by_cases h9 : op = 9
  · subst h9; exact in3 a b _ 33 34 rfl
  by_cases h12 : op = 12
  · subst h12; exact in4 a b
  by_cases h11 : op = 11
  · subst h11; exact in5 a b
  by_cases h13 : op = 13
  · subst h13; exact in5 a b
  by_cases h14 : op = 14
  · subst h14; exact in5 a b
  simp only [rostrumref13_instr.f, rostrumref13_instr.j0, rostrumref13_instr.j1, rostrumref13_instr.j2, bnd, h1, h2, h3, h4, h5, h6, h7, h8, h9, h10, h11, h12, h13, h14, if_false, or_self, beq_iff_eq]
  rw [show (decide (0 ≤ a) && decide (a < 0)) = false from by rw [Bool.and_eq_false_iff]; rcases Int.lt_or_le a 0 with h | h <;> simp [h] <;> omega]
  rfl
end Go.Proofs.YtpkfppfdkdjlhaaDoor.D
