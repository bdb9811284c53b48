
/- The reference's may, depth and size, against the plain functions. -/
import Derived.Test.YtjphkokfleoinaaDoorDx4
import Derived.Test.YtjphkokfleoinaaDoorDx5
import Derived.Test.YtjphkokfleoinaaDoorDx6
import Derived.Test.YtjphkokfleoinaaDoorHDepth
import Derived.Test.YtjphkokfleoinaaDoorHNames2
namespace Go.Proofs.YtjphkokfleoinaaDoor.D
open Go.RowKit Go.Proofs.YtjphkokfleoinaaDoorW.PrintWords Go.Proofs.YtjphkokfleoinaaDoorW.PrintLast Go.Proofs.YtjphkokfleoinaaDoorW.PrintMore
set_option linter.unusedVariables false
set_option linter.unusedSimpArgs false

def MayAt (x : S24) : Prop := ∀ m : Int, -9223372036854775808 ≤ m → m ≤ 9223372036854775807 → Ev (fun k => rostrumref10_may.f k x.f0 x.f1 x.f2 x.f3 m) (rightB x m)

theorem may_l1 (m : Int) (u : List S24) (hm0 : 0 < m) (hm : m ≤ 9223372036854775807) (hu : u.length ≤ 9223372036854775807) (hf : ∀ i : Nat, i < u.length → MayAt (rd_T24 u i)) (d : Nat) : ∀ i : Nat, u.length - i = d → i ≤ u.length →
    Ev (fun k => rostrumref10_may.l1 k m u (u.length : Int) i) (rightL (u.drop i) (m - 1)) := by
  induction d with
  | zero =>
    intro i hd hi
    rw [List.drop_eq_nil_of_le (by omega)]
    refine Ev.step (f := fun _ => some true) (fun k => ?_) (Ev.now _)
    simp only [rostrumref10_may.l1]
    rw [if_neg (by omega)]
  | succ d ih =>
    intro i hd hi
    have hlt : i < u.length := by omega
    refine Ev.step (f := fun k => (rostrumref10_may.f k (rd_T24 u i).f0 (rd_T24 u i).f1 (rd_T24 u i).f2 (rd_T24 u i).f3 (m - 1)).bind fun t =>
      if t = true then rostrumref10_may.l1 k m u (u.length : Int) ((i + 1 : Nat) : Int) else some false) (fun k => ?_) ?_
    · simp only [rostrumref10_may.l1]
      rw [if_pos (by omega), if_pos (by omega), if_pos (by omega), up_ hlt hu, show wrap64 (m - 1) = m - 1 from by unfold wrap64; omega]
    · refine Ev.bind (hf i hlt (m - 1) (by omega) (by omega)) ?_
      rw [List.drop_eq_getElem_cons hlt]
      simp only [rightL, ← rd_cast' hlt]
      cases hs : rightB (rd_T24 u i) (m - 1) with
      | true => simpa using ih (i + 1) (by omega) (by omega)
      | false => simpa using Ev.now false

theorem may_l0 (m : Int) (a0 : Int) (a1 : ByteArray) (l u : List S24) (hm0 : 0 < m) (hm : m ≤ 9223372036854775807) (hl : l.length ≤ 9223372036854775807) (hu : u.length ≤ 9223372036854775807) (hf : ∀ i : Nat, i < l.length → MayAt (rd_T24 l i)) (hg : ∀ i : Nat, i < u.length → MayAt (rd_T24 u i)) (d : Nat) : ∀ i : Nat, l.length - i = d → i ≤ l.length →
    Ev (fun k => rostrumref10_may.l0 k m l (l.length : Int) i a0 a1 l u) (rightL (l.drop i) (m - 1) && rightL u (m - 1)) := by
  induction d with
  | zero =>
    intro i hd hi
    rw [List.drop_eq_nil_of_le (by omega)]
    refine Ev.step (f := fun k => rostrumref10_may.l1 k m u (u.length : Int) 0) (fun k => ?_) (by simpa [rightL] using may_l1 m u hm0 hm hu hg _ 0 rfl (Nat.zero_le _))
    simp only [rostrumref10_may.l0]
    rw [if_neg (by omega)]
  | succ d ih =>
    intro i hd hi
    have hlt : i < l.length := by omega
    refine Ev.step (f := fun k => (rostrumref10_may.f k (rd_T24 l i).f0 (rd_T24 l i).f1 (rd_T24 l i).f2 (rd_T24 l i).f3 (m - 1)).bind fun t =>
      if t = true then rostrumref10_may.l0 k m l (l.length : Int) ((i + 1 : Nat) : Int) a0 a1 l u else some false) (fun k => ?_) ?_
    · simp only [rostrumref10_may.l0]
      rw [if_pos (by omega), if_pos (by omega), if_pos (by omega), up_ hlt hl, show wrap64 (m - 1) = m - 1 from by unfold wrap64; omega]
    · refine Ev.bind (hf i hlt (m - 1) (by omega) (by omega)) ?_
      rw [List.drop_eq_getElem_cons hlt]
      simp only [rightL, ← rd_cast' hlt]
      cases hs : rightB (rd_T24 l i) (m - 1) with
      | true => simpa using ih (i + 1) (by omega) (by omega)
      | false => simpa using Ev.now false

theorem may_j1 (m a0 : Int) (a1 : ByteArray) (l u : List S24) (hk : a0 = 5 ∨ a0 = 6) (hm : m ≤ 9223372036854775807) (hl : l.length ≤ 9223372036854775807) (hu : u.length ≤ 9223372036854775807) (hf : ∀ i : Nat, i < l.length → MayAt (rd_T24 l i)) (hg : ∀ i : Nat, i < u.length → MayAt (rd_T24 u i)) :
    Ev (fun k => if a1.toList = ([] : List UInt8) then rostrumref10_may.j1 k m (decide (m ≤ 0)) a0 a1 l u else rostrumref10_may.j1 k m true a0 a1 l u) (rightB ⟨a0, a1, l, u⟩ m) := by
  have hbad : rightB ⟨a0, a1, l, u⟩ m = false → Ev (fun k => rostrumref10_may.j1 k m true a0 a1 l u) (rightB ⟨a0, a1, l, u⟩ m) := fun h => by
    rw [h]
    exact Ev.step (f := fun _ => some false) (fun k => by simp only [rostrumref10_may.j1, if_true]) (Ev.now _)
  by_cases ht : a1.toList = ([] : List UInt8)
  · refine Ev.congr (f := fun k => rostrumref10_may.j1 k m (decide (m ≤ 0)) a0 a1 l u) (fun k => by rw [if_pos ht]) ?_
    by_cases hm0 : 0 < m
    · rw [show decide (m ≤ 0) = false from decide_eq_false (by omega)]
      have hj2t : Ev (fun k => rostrumref10_may.j2 k m true a0 a1 l u) false := Ev.step (f := fun _ => some false) (fun k => by simp only [rostrumref10_may.j2, if_true]) (Ev.now _)
      have hj2f : Ev (fun k => rostrumref10_may.j2 k m false a0 a1 l u) (rightL l (m - 1) && rightL u (m - 1)) :=
        Ev.step (f := fun k => rostrumref10_may.l0 k m l (l.length : Int) 0 a0 a1 l u) (fun k => by simp only [rostrumref10_may.j2]; rw [if_neg (by simp)]) (by simpa using may_l0 m a0 a1 l u hm0 hm hl hu hf hg _ 0 rfl (Nat.zero_le _))
      have hte : a1.toList.isEmpty = true := by rw [ht]; rfl
      by_cases hu0 : u.length = 0
      · obtain rfl : u = [] := List.length_eq_zero_iff.1 hu0
        refine Ev.step (f := fun k => rostrumref10_may.j2 k m false a0 a1 l []) (fun k => by simp only [rostrumref10_may.j1]; rw [if_neg (by simp), if_neg (by simp)]) ?_
        rcases hk with rfl | rfl
        · simpa [rightB, hte, hm0, rightL] using hj2f
        · simpa [rightB, hte, hm0, rightL] using hj2f
      · have hue : u.isEmpty = false := by cases u with
          | nil => simp at hu0
          | cons a u => rfl
        rcases hk with rfl | rfl
        · by_cases hu1 : u.length ≤ 1
          · by_cases hl0 : l.length = 0
            · refine Ev.step (f := fun k => rostrumref10_may.j2 k m true 5 a1 l u) (fun k => by simp only [rostrumref10_may.j1]; rw [if_neg (by simp), if_pos (by omega), if_neg (by omega), if_neg (by omega), if_pos (by omega)]) ?_
              have hle : l.isEmpty = true := by rw [List.isEmpty_iff, ← List.length_eq_zero_iff]; exact hl0
              simpa [rightB, hue, hle] using hj2t
            · refine Ev.step (f := fun k => rostrumref10_may.j2 k m ((rd_T24 u 0).f0 == 5) 5 a1 l u) (fun k => by simp only [rostrumref10_may.j1]; rw [if_neg (by simp), if_pos (by omega), if_neg (by omega), if_neg (by omega), if_neg (by omega), if_pos (by omega)]) ?_
              have hle : l.isEmpty = false := by cases l with
                | nil => simp at hl0
                | cons a l => rfl
              cases h5 : ((rd_T24 u 0).f0 == 5) with
              | true => simpa [rightB, hue, hle, h5, bne] using hj2t
              | false => simpa [rightB, hue, hle, h5, hte, hm0, hu1, bne] using hj2f
          · refine Ev.step (f := fun k => rostrumref10_may.j2 k m true 5 a1 l u) (fun k => by simp only [rostrumref10_may.j1]; rw [if_neg (by simp), if_pos (by omega), if_neg (by omega), if_pos (by omega)]) ?_
            simpa [rightB, hu1] using hj2t
        · refine Ev.step (f := fun k => rostrumref10_may.j2 k m true 6 a1 l u) (fun k => by simp only [rostrumref10_may.j1]; rw [if_neg (by simp), if_pos (by omega), if_pos trivial]) ?_
          simpa [rightB, hue] using hj2t
    · rw [show decide (m ≤ 0) = true from decide_eq_true (by omega)]
      exact hbad (by rcases hk with rfl | rfl <;> simp [rightB, hm0])
  · refine Ev.congr (f := fun k => rostrumref10_may.j1 k m true a0 a1 l u) (fun k => by rw [if_neg ht]) ?_
    exact hbad (by rcases hk with rfl | rfl <;> simp [rightB, ht])

theorem ref_may (n : Nat) : ∀ x : S24, SizeOf.sizeOf x ≤ n → Fit x → MayAt x := by
  induction n with
  | zero => intro a h; cases a; simp at h
  | succ n ih =>
    intro x hn hfit m hm1 hm2
    obtain ⟨k, t, l, u⟩ := x
    obtain ⟨_, hts, hml, hmu, hfl, hfu⟩ := hfit
    rw [FitL_iff] at hfl hfu
    have hL : ∀ i : Nat, i < l.length → MayAt (rd_T24 l i) := fun i h => ih _ (by
      have := List.sizeOf_lt_of_mem (rd_mem h)
      simp only [S24.mk.sizeOf_spec] at hn
      omega) (hfl _ (rd_mem h))
    have hU : ∀ i : Nat, i < u.length → MayAt (rd_T24 u i) := fun i h => ih _ (by
      have := List.sizeOf_lt_of_mem (rd_mem h)
      simp only [S24.mk.sizeOf_spec] at hn
      omega) (hfu _ (rd_mem h))
    show Ev (fun r => rostrumref10_may.f r k t l u m) (rightB ⟨k, t, l, u⟩ m)
    have key : ∀ b : Bool, b = (l.isEmpty && u.isEmpty) → Ev (fun r => rostrumref10_may.j0 r m b k t l u) (rightB ⟨k, t, l, u⟩ m) := by
      intro b hb
      by_cases h1 : k = 1
      · subst h1
        simp only [rightB, if_true, ← hb]
        cases b with
        | false => exact Ev.step (f := fun _ => some false) (fun r => by simp only [rostrumref10_may.j0, if_true]; rw [if_neg (by simp)]) (by simpa using Ev.now false)
        | true => exact Ev.step (f := fun r => (rostrumref09_Can.f r t).bind fun t135 => some t135) (fun r => by simp only [rostrumref10_may.j0, if_true]) (by simpa using Ev.bind (can_ref t hts) (Ev.now _))
      · by_cases h2 : k = 2
        · subst h2
          simp only [rightB, if_neg h1, if_true, ← hb]
          cases b with
          | false => exact Ev.step (f := fun _ => some false) (fun r => by simp only [rostrumref10_may.j0, if_true]; rw [if_neg (by omega), if_neg (by simp)]) (by simpa using Ev.now false)
          | true =>
            refine Ev.step (f := fun _ => some ((t.toList == [35, 116]) || (t.toList == [35, 102]))) (fun r => ?_) (by simpa using Ev.now _)
            simp only [rostrumref10_may.j0, if_true]
            rw [if_neg (by omega)]
            by_cases he : t.toList = ([35, 116] : List UInt8)
            · rw [if_pos he]; simp [he]
            · rw [if_neg he]; simp [he]
        · by_cases h3 : k = 3
          · subst h3
            simp only [rightB, if_neg h1, if_neg h2, if_true, ← hb]
            exact Ev.step (f := fun _ => some b) (fun r => by simp only [rostrumref10_may.j0]; rw [if_neg h1, if_neg h2, if_pos trivial]) (Ev.now _)
          · by_cases h4 : k = 4
            · subst h4
              simp only [rightB, if_neg h1, if_neg h2, if_neg h3, if_true, ← hb]
              cases b with
              | false => exact Ev.step (f := fun _ => some false) (fun r => by simp only [rostrumref10_may.j0]; rw [if_neg h1, if_neg h2, if_neg h3, if_pos trivial, if_neg (by simp)]) (by simpa using Ev.now false)
              | true => exact Ev.step (f := fun r => (rostrumref10_IsName.f r t).bind fun t136 => some t136) (fun r => by simp only [rostrumref10_may.j0]; rw [if_neg h1, if_neg h2, if_neg h3, if_pos trivial, if_pos trivial]) (by simpa using Ev.bind (name_ref t hts) (Ev.now _))
            · by_cases h5 : k = 5
              · exact Ev.step (fun r => by simp only [rostrumref10_may.j0]; rw [if_neg h1, if_neg h2, if_neg h3, if_neg h4, if_pos h5]) (may_j1 m k t l u (.inl h5) hm2 hml hmu hL hU)
              · by_cases h6 : k = 6
                · exact Ev.step (fun r => by simp only [rostrumref10_may.j0]; rw [if_neg h1, if_neg h2, if_neg h3, if_neg h4, if_neg h5, if_pos h6]) (may_j1 m k t l u (.inr h6) hm2 hml hmu hL hU)
                · rw [show rightB ⟨k, t, l, u⟩ m = false from by simp [rightB, h1, h2, h3, h4, h5, h6]]
                  refine Ev.step (f := fun r => rostrumref10_may.j1 r m true k t l u) (fun r => by simp only [rostrumref10_may.j0]; rw [if_neg h1, if_neg h2, if_neg h3, if_neg h4, if_neg h5, if_neg h6]) ?_
                  exact Ev.step (f := fun _ => some false) (fun k => by simp only [rostrumref10_may.j1, if_true]) (Ev.now _)
    by_cases hl0 : l.length = 0
    · refine Ev.step (fun r => by simp only [rostrumref10_may.f]; rw [if_pos (by omega)]) (key _ ?_)
      obtain rfl : l = [] := List.length_eq_zero_iff.1 hl0
      cases u <;> simp <;> omega
    · refine Ev.step (fun r => by simp only [rostrumref10_may.f]; rw [if_neg (by omega)]) (key _ ?_)
      cases l with
      | nil => simp at hl0
      | cons a l => rfl
end Go.Proofs.YtjphkokfleoinaaDoor.D
