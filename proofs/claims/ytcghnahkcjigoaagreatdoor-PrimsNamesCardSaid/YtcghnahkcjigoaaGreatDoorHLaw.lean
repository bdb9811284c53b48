/- PrimsNames, in plain Lean. -/
import Derived.Test.YtcghnahkcjigoaaGreatDoorDx3
import Derived.Test.YtcghnahkcjigoaaGreatDoorHFind
namespace Go.Proofs.YtcghnahkcjigoaaGreatDoor.D
open Go Go.RowKit Go.Proofs.YtcghnahkcjigoaaGreatDoorW.PrintWords Go.Proofs.YtcghnahkcjigoaaGreatDoorW.PrintLast
set_option linter.unusedVariables false

theorem toList_data0 (s : ByteArray) : s.toList = s.data.toList := ByteArray.toList_eq s
theorem names_eq : rostrumref15_names.f = some NM := by kernel_rfl
theorem refFind_from (s : ByteArray) (l : List ByteArray) (hl : l.length ≤ 1000) : ∀ (k j : Nat), j ≤ l.length → l.length - j < k →
    rostrumref15_Find.l0 k s l (l.length : Int) (j : Int) = some (if 0 ≤ findF s (l.drop j) j then (findF s (l.drop j) j, true) else (0, false))
  | 0, j, hj, h => by omega
  | k + 1, j, hj, h => by
    unfold rostrumref15_Find.l0
    by_cases hlt : j < l.length
    · have hs := findF_step s l 0 j hlt
      rw [Nat.zero_add, Nat.zero_add] at hs
      rw [if_pos (by omega), if_pos (by omega), if_pos (by omega), hs]
      have hrd : rdOf ByteArray.empty l (j : Int) = l.getD j ByteArray.empty := by simp [rdOf]
      rw [hrd]
      by_cases he : (l.getD j ByteArray.empty).toList = s.toList
      · rw [if_pos he, if_pos he, if_pos (by omega)]
      · rw [if_neg he, if_neg he, show wrap64 ((j : Int) + 1) = ((j + 1 : Nat) : Int) from by unfold wrap64; omega]
        exact refFind_from s l hl k (j + 1) hlt (by omega)
    · obtain rfl : j = l.length := by omega
      rw [if_neg (by omega), findF_end]
      rfl
theorem refFind (s : ByteArray) : rostrumref15_Find.f 100 s = prims_Find.f s := by
  unfold rostrumref15_Find.f prims_Find.f
  rw [names_eq]
  exact refFind_from s NM (by rw [NM_len]; decide) 100 0 (Nat.zero_le _) (by rw [NM_len]; decide)
theorem refName (n : Int) : rostrumref15_Name.f n = prims_Name.f n := by
  unfold rostrumref15_Name.f prims_Name.f rostrumref15_Count.f
  rw [names_eq]
  simp only [Option.bind_some, NM_len]
  by_cases h0 : n < 0
  · rw [if_pos h0, if_neg (by omega)]; rfl
  · rw [if_neg h0]
    by_cases h1 : n ≥ ((47 : Nat) : Int)
    · rw [if_pos h1, if_neg (by omega)]; rfl
    · rw [if_neg h1, if_pos (by omega), if_pos (show n < ((47 : Nat) : Int) by omega), if_pos (by omega)]
      simp [rdOf]
def findD (s : List UInt8) : List ByteArray → Nat → Int
  | [], _ => -1
  | x :: l, i => if x.data.toList = s then (i : Int) else findD s l (i + 1)
theorem findF_D (s : ByteArray) : ∀ (l : List ByteArray) (i : Nat), findF s l i = findD s.data.toList l i
  | [], _ => rfl
  | x :: l, i => by
    unfold findF findD
    rw [toList_data0, toList_data0, findF_D s l]
theorem found : ∀ n, n < 47 → findF (NM.getD n ByteArray.empty) NM 0 = (n : Int) := by
  have h : ∀ n, n < 47 → findD (NM.getD n ByteArray.empty).data.toList NM 0 = (n : Int) := by decide +kernel
  intro n hn
  rw [findF_D]
  exact h n hn
theorem law_pure : rostrumlaw15_PrimsNames.Pure := by
  intro a0 a1 _ _
  refine ⟨100, ?_⟩
  unfold rostrumlaw15_PrimsNames.f
  rw [refFind, refName]
  unfold prims_Find.f
  simp only [Option.bind_some, if_true, bne_self_eq_false, Bool.false_eq_true, if_false]
  unfold prims_Name.f
  simp only [Option.bind_some, bne_self_eq_false]
  unfold rostrumlaw15_PrimsNames.j0
  show (if false = true then some false else _) = some true
  rw [if_neg (by decide)]
  unfold prims_Name.f prims_Find.f
  simp only [Option.bind_some]
  by_cases hn : 0 ≤ a1 ∧ a1 < 47
  · rw [if_pos hn]
    obtain ⟨n, rfl⟩ := Int.eq_ofNat_of_zero_le hn.1
    have hf := found n (by omega)
    rw [show ((n : Int)).toNat = n from rfl, hf]
    simp
  · rw [if_neg hn]
    rw [if_pos (by rw [toList_data0]; rfl)]
end Go.Proofs.YtcghnahkcjigoaaGreatDoor.D
