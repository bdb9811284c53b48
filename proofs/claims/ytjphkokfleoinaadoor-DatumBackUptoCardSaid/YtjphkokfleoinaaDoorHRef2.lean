
/- The reference's depth and size, against the walks that Depth and Size make. -/
import Derived.Test.YtjphkokfleoinaaDoorDx7
import Derived.Test.YtjphkokfleoinaaDoorHRef1
namespace Go.Proofs.YtjphkokfleoinaaDoor.D
open Go.RowKit Go.Proofs.YtjphkokfleoinaaDoorW.PrintWords Go.Proofs.YtjphkokfleoinaaDoorW.PrintLast Go.Proofs.YtjphkokfleoinaaDoorW.PrintMore
set_option linter.unusedVariables false
set_option linter.unusedSimpArgs false

mutual
/-- The reference's depth. -/
def dR : S24 → Int → Int
  | ⟨k, _, l, u⟩, m => if (k = 5 ∨ k = 6) ∧ 0 < m then 1 + dRL u (m - 1) (dRL l (m - 1) 0) else 0
def dRL : List S24 → Int → Int → Int
  | [], _, v => v
  | a :: l, m, v => dRL l m (mx v (dR a m))
end
theorem mx_max (a b : Int) : mx a b = max a b := by unfold mx; split <;> omega
theorem dR_bounds (n : Nat) : ∀ x : S24, SizeOf.sizeOf x ≤ n → ∀ m : Int, 0 ≤ dR x m ∧ dR x m ≤ max m 0 := by
  induction n with
  | zero => intro a h; cases a; simp at h
  | succ n ih =>
    intro x hn m
    obtain ⟨k, t, l, u⟩ := x
    have hL : ∀ (l : List S24), (∀ a ∈ l, SizeOf.sizeOf a ≤ n) → ∀ (j v : Int), 0 ≤ v → v ≤ max j 0 → 0 ≤ dRL l j v ∧ dRL l j v ≤ max j 0 := by
      intro l
      induction l with
      | nil => intro _ j v h1 h2; exact ⟨h1, h2⟩
      | cons a l ihl =>
        intro h j v h1 h2
        simp only [dRL, mx_max]
        have := ih a (h a (List.mem_cons_self ..)) j
        exact ihl (fun b hb => h b (List.mem_cons_of_mem _ hb)) j _ (by omega) (by omega)
    simp only [S24.mk.sizeOf_spec] at hn
    have h1 := hL l (fun a ha => by have := List.sizeOf_lt_of_mem ha; omega) (m - 1) 0 (by omega) (by omega)
    have h2 := hL u (fun a ha => by have := List.sizeOf_lt_of_mem ha; omega) (m - 1) (dRL l (m - 1) 0) (by omega) (by omega)
    simp only [dR]
    split <;> omega
theorem dRL_max (l : List S24) (m : Int) : ∀ v : Int, 0 ≤ v → dRL l m v = max v (dRL l m 0) := by
  induction l with
  | nil => intro v h; simp only [dRL]; omega
  | cons a l ih =>
    intro v hv
    have hb := dR_bounds _ a (Nat.le_refl _) m
    simp only [dRL, mx_max]
    rw [ih (max v (dR a m)) (by omega), ih (max 0 (dR a m)) (by omega)]
    omega
theorem dRL_nonneg (l : List S24) (m : Int) : 0 ≤ dRL l m 0 := by
  induction l with
  | nil => simp [dRL]
  | cons a l ih =>
    have hb := dR_bounds _ a (Nat.le_refl _) m
    simp only [dRL, mx_max]
    rw [dRL_max _ _ _ (by omega)]; omega
theorem dRL_cons (a : S24) (l : List S24) (m : Int) : dRL (a :: l) m 0 = max (dR a m) (dRL l m 0) := by
  have hb := dR_bounds _ a (Nat.le_refl _) m
  have := dRL_nonneg l m
  simp only [dRL, mx_max]
  rw [dRL_max _ _ _ (by omega)]; omega
theorem dR_list (k : Int) (t : ByteArray) (l u : List S24) (m : Int) (hk : k = 5 ∨ k = 6) (hm : 0 < m) : dR ⟨k, t, l, u⟩ m = 1 + max (dRL l (m - 1) 0) (dRL u (m - 1) 0) := by
  simp only [dR]
  rw [if_pos ⟨hk, hm⟩, dRL_max u _ _ (dRL_nonneg l _)]
theorem dR_leaf (k : Int) (t : ByteArray) (l u : List S24) (m : Int) (hk : ¬ (k = 5 ∨ k = 6)) : dR ⟨k, t, l, u⟩ m = 0 := by
  simp only [dR]
  rw [if_neg (fun h => hk h.1)]
theorem right_leaf_any {k : Int} {t : ByteArray} {l u : List S24} (m m' : Int) (hk : ¬ (k = 5 ∨ k = 6)) : rightB ⟨k, t, l, u⟩ m = rightB ⟨k, t, l, u⟩ m' := by
  have h5 : ¬ k = 5 := fun e => hk (.inl e)
  have h6 : ¬ k = 6 := fun e => hk (.inr e)
  simp only [rightB, if_neg h5, if_neg h6]
/-- What a list asks but for its elements and its depth. -/
def shapeB (k : Int) (t : ByteArray) (l u : List S24) : Bool := if k = 6 then u.isEmpty && t.toList.isEmpty else decide (u.length ≤ 1) && (u.isEmpty || !l.isEmpty && (rd_T24 u 0).f0 != 5) && t.toList.isEmpty
theorem right_list (k : Int) (t : ByteArray) (l u : List S24) (m : Int) (hk : k = 5 ∨ k = 6) : rightB ⟨k, t, l, u⟩ m = (shapeB k t l u && decide (0 < m) && rightL l (m - 1) && rightL u (m - 1)) := by
  rcases hk with rfl | rfl
  · simp only [rightB, shapeB]
    rw [if_neg (by omega), if_neg (by omega), if_neg (by omega), if_neg (by omega), if_neg (by omega), if_pos trivial, if_neg (by omega)]
    cases decide (u.length ≤ 1) <;> cases (u.isEmpty || !l.isEmpty && (rd_T24 u 0).f0 != 5) <;> cases decide (0 < m) <;> cases t.toList.isEmpty <;> simp
  · simp only [rightB, shapeB]
    rw [if_neg (by omega), if_neg (by omega), if_neg (by omega), if_neg (by omega), if_pos trivial, if_pos trivial]
    cases u.isEmpty <;> cases decide (0 < m) <;> cases t.toList.isEmpty <;> simp

/-- With two levels more, it is right at m if it is right with them and its depth is at most m. -/
theorem right_depth (n : Nat) : ∀ x : S24, SizeOf.sizeOf x ≤ n → ∀ m : Int, 0 ≤ m → (rightB x (m + 2) && decide (dR x (m + 2) ≤ m)) = rightB x m := by
  induction n with
  | zero => intro a h; cases a; simp at h
  | succ n ih =>
    intro x hn m hm
    obtain ⟨k, t, l, u⟩ := x
    by_cases hk : k = 5 ∨ k = 6
    · simp only [S24.mk.sizeOf_spec] at hn
      have hL : ∀ (l : List S24), (∀ a ∈ l, SizeOf.sizeOf a ≤ n) → ∀ j : Int, 0 ≤ j → (rightL l (j + 2) && decide (dRL l (j + 2) 0 ≤ j)) = rightL l j := by
        intro l
        induction l with
        | nil => intro _ j hj; simp [rightL, dRL, hj]
        | cons a l ihl =>
          intro h j hj
          have h1 := ih a (h a (List.mem_cons_self ..)) j hj
          have h2 := ihl (fun b hb => h b (List.mem_cons_of_mem _ hb)) j hj
          simp only [rightL, dRL_cons]
          rw [← h1, ← h2]
          have : decide (max (dR a (j + 2)) (dRL l (j + 2) 0) ≤ j) = (decide (dR a (j + 2) ≤ j) && decide (dRL l (j + 2) 0 ≤ j)) := by
            rw [← Bool.decide_and]; congr 1; apply propext; omega
          rw [this]
          cases rightB a (j + 2) <;> cases rightL l (j + 2) <;> cases decide (dR a (j + 2) ≤ j) <;> cases decide (dRL l (j + 2) 0 ≤ j) <;> rfl
      rw [right_list _ _ _ _ _ hk, right_list _ _ _ _ _ hk, dR_list _ _ _ _ _ hk (by omega)]
      by_cases hm0 : 0 < m
      · have h1 := hL l (fun a ha => by have := List.sizeOf_lt_of_mem ha; omega) (m - 1) (by omega)
        have h2 := hL u (fun a ha => by have := List.sizeOf_lt_of_mem ha; omega) (m - 1) (by omega)
        rw [← h1, ← h2, show m + 2 - 1 = m - 1 + 2 from by omega]
        have : decide (1 + max (dRL l (m - 1 + 2) 0) (dRL u (m - 1 + 2) 0) ≤ m) = (decide (dRL l (m - 1 + 2) 0 ≤ m - 1) && decide (dRL u (m - 1 + 2) 0 ≤ m - 1)) := by
          rw [← Bool.decide_and]; congr 1; apply propext; omega
        rw [this, decide_eq_true hm0, decide_eq_true (show 0 < m + 2 by omega)]
        cases shapeB k t l u <;> cases rightL l (m - 1 + 2) <;> cases rightL u (m - 1 + 2) <;> cases decide (dRL l (m - 1 + 2) 0 ≤ m - 1) <;> cases decide (dRL u (m - 1 + 2) 0 ≤ m - 1) <;> rfl
      · have g1 := dRL_nonneg l (m + 2 - 1)
        have g2 := dRL_nonneg u (m + 2 - 1)
        rw [decide_eq_false (show ¬ 0 < m by omega), decide_eq_false (show ¬ (1 + max (dRL l (m + 2 - 1) 0) (dRL u (m + 2 - 1) 0) ≤ m) by omega)]
        simp
    · rw [dR_leaf _ _ _ _ _ hk, decide_eq_true hm, Bool.and_true]
      exact right_leaf_any _ _ hk

def DepthAt (x : S24) : Prop := ∀ m : Int, -9223372036854775808 ≤ m → m ≤ 1000000 → Ev (fun k => rostrumref10_depth.f k x.f0 x.f1 x.f2 x.f3 m) (dR x m)
theorem dRL_drop (l : List S24) (i : Nat) (h : i < l.length) (m v : Int) : dRL (l.drop i) m v = dRL (l.drop (i + 1)) m (mx v (dR (rd_T24 l i) m)) := by
  rw [List.drop_eq_getElem_cons h]
  simp only [dRL, ← rd_cast' h]
theorem depth_l1 (m : Int) (u : List S24) (hm0 : 0 < m) (hm : m ≤ 1000000) (hu : u.length ≤ 9223372036854775807) (hf : ∀ i : Nat, i < u.length → DepthAt (rd_T24 u i)) (d : Nat) : ∀ i : Nat, u.length - i = d → i ≤ u.length → ∀ v : Int, 0 ≤ v → v ≤ m - 1 →
    Ev (fun k => rostrumref10_depth.l1 k m v u (u.length : Int) i) (1 + dRL (u.drop i) (m - 1) v) := by
  induction d with
  | zero =>
    intro i hd hi v hv1 hv2
    rw [List.drop_eq_nil_of_le (by omega)]
    refine Ev.step (f := fun _ => some (1 + v)) (fun k => ?_) (Ev.now _)
    simp only [rostrumref10_depth.l1]
    rw [if_neg (by omega), show wrap64 (1 + v) = 1 + v from by unfold wrap64; omega]
  | succ d ih =>
    intro i hd hi v hv1 hv2
    have hlt : i < u.length := by omega
    refine Ev.step (f := fun k => (rostrumref10_depth.f k (rd_T24 u i).f0 (rd_T24 u i).f1 (rd_T24 u i).f2 (rd_T24 u i).f3 (m - 1)).bind fun t =>
      rostrumref10_depth.l1 k m (mx v t) u (u.length : Int) ((i + 1 : Nat) : Int)) (fun k => ?_) ?_
    · simp only [rostrumref10_depth.l1]
      rw [if_pos (by omega), if_pos (by omega), if_pos (by omega), up_ hlt hu, show wrap64 (m - 1) = m - 1 from by unfold wrap64; omega]
    · refine Ev.bind (hf i hlt (m - 1) (by omega) (by omega)) ?_
      rw [dRL_drop u i hlt]
      have := dR_bounds _ (rd_T24 u i) (Nat.le_refl _) (m - 1)
      exact ih (i + 1) (by omega) (by omega) _ (by rw [mx_max]; omega) (by rw [mx_max]; omega)
theorem depth_l0 (m : Int) (a0 : Int) (a1 : ByteArray) (l u : List S24) (hm0 : 0 < m) (hm : m ≤ 1000000) (hl : l.length ≤ 9223372036854775807) (hu : u.length ≤ 9223372036854775807) (hf : ∀ i : Nat, i < l.length → DepthAt (rd_T24 l i)) (hg : ∀ i : Nat, i < u.length → DepthAt (rd_T24 u i)) (d : Nat) : ∀ i : Nat, l.length - i = d → i ≤ l.length → ∀ v : Int, 0 ≤ v → v ≤ m - 1 →
    Ev (fun k => rostrumref10_depth.l0 k m v l (l.length : Int) i a0 a1 l u) (1 + dRL u (m - 1) (dRL (l.drop i) (m - 1) v)) := by
  induction d with
  | zero =>
    intro i hd hi v hv1 hv2
    rw [List.drop_eq_nil_of_le (by omega)]
    refine Ev.step (f := fun k => rostrumref10_depth.l1 k m v u (u.length : Int) 0) (fun k => ?_) (by simpa [dRL] using depth_l1 m u hm0 hm hu hg _ 0 rfl (Nat.zero_le _) v hv1 hv2)
    simp only [rostrumref10_depth.l0]
    rw [if_neg (by omega)]
  | succ d ih =>
    intro i hd hi v hv1 hv2
    have hlt : i < l.length := by omega
    refine Ev.step (f := fun k => (rostrumref10_depth.f k (rd_T24 l i).f0 (rd_T24 l i).f1 (rd_T24 l i).f2 (rd_T24 l i).f3 (m - 1)).bind fun t =>
      rostrumref10_depth.l0 k m (mx v t) l (l.length : Int) ((i + 1 : Nat) : Int) a0 a1 l u) (fun k => ?_) ?_
    · simp only [rostrumref10_depth.l0]
      rw [if_pos (by omega), if_pos (by omega), if_pos (by omega), up_ hlt hl, show wrap64 (m - 1) = m - 1 from by unfold wrap64; omega]
    · refine Ev.bind (hf i hlt (m - 1) (by omega) (by omega)) ?_
      rw [dRL_drop l i hlt]
      have := dR_bounds _ (rd_T24 l i) (Nat.le_refl _) (m - 1)
      exact ih (i + 1) (by omega) (by omega) _ (by rw [mx_max]; omega) (by rw [mx_max]; omega)
theorem ref_depth (n : Nat) : ∀ x : S24, SizeOf.sizeOf x ≤ n → Fit x → DepthAt x := by
  induction n with
  | zero => intro a h; cases a; simp at h
  | succ n ih =>
    intro x hn hfit m hm1 hm2
    obtain ⟨k, t, l, u⟩ := x
    obtain ⟨_, hts, hml, hmu, hfl, hfu⟩ := hfit
    rw [FitL_iff] at hfl hfu
    have hL : ∀ i : Nat, i < l.length → DepthAt (rd_T24 l i) := fun i h => ih _ (by
      have := List.sizeOf_lt_of_mem (rd_mem h)
      simp only [S24.mk.sizeOf_spec] at hn
      omega) (hfl _ (rd_mem h))
    have hU : ∀ i : Nat, i < u.length → DepthAt (rd_T24 u i) := fun i h => ih _ (by
      have := List.sizeOf_lt_of_mem (rd_mem h)
      simp only [S24.mk.sizeOf_spec] at hn
      omega) (hfu _ (rd_mem h))
    show Ev (fun r => rostrumref10_depth.f r k t l u m) (dR ⟨k, t, l, u⟩ m)
    have hj : ∀ b : Bool, b = (!(decide (k = 5 ∨ k = 6) && decide (0 < m))) → Ev (fun r => rostrumref10_depth.j0 r m b k t l u) (dR ⟨k, t, l, u⟩ m) := by
      intro b hb
      cases b with
      | true =>
        have : ¬ ((k = 5 ∨ k = 6) ∧ 0 < m) := fun h => by simp [h.1, h.2] at hb
        rw [show dR ⟨k, t, l, u⟩ m = 0 from by simp only [dR]; rw [if_neg this]]
        exact Ev.step (f := fun _ => some 0) (fun r => by simp only [rostrumref10_depth.j0, if_true]) (Ev.now _)
      | false =>
        have hb1 : (decide (k = 5 ∨ k = 6) && decide (0 < m)) = true := by
          revert hb; cases (decide (k = 5 ∨ k = 6) && decide (0 < m)) <;> simp
        have hb2 : (k = 5 ∨ k = 6) ∧ 0 < m := by
          rw [Bool.and_eq_true, decide_eq_true_eq, decide_eq_true_eq] at hb1
          exact hb1
        rw [show dR ⟨k, t, l, u⟩ m = 1 + dRL u (m - 1) (dRL l (m - 1) 0) from by simp only [dR]; rw [if_pos hb2]]
        refine Ev.step (f := fun r => rostrumref10_depth.l0 r m 0 l (l.length : Int) 0 k t l u) (fun r => by simp only [rostrumref10_depth.j0]; rw [if_neg (by simp)]) ?_
        simpa using depth_l0 m k t l u hb2.2 hm2 hml hmu hL hU _ 0 rfl (Nat.zero_le _) 0 (by omega) (by omega)
    by_cases h5 : k = 5
    · exact Ev.step (fun r => by simp only [rostrumref10_depth.f]; rw [if_pos h5]) (hj (decide (m ≤ 0)) (by simp [h5, ← Int.not_lt]))
    · by_cases h6 : k = 6
      · exact Ev.step (fun r => by simp only [rostrumref10_depth.f]; rw [if_neg h5, if_pos h6]) (hj (decide (m ≤ 0)) (by simp [h6, ← Int.not_lt]))
      · exact Ev.step (fun r => by simp only [rostrumref10_depth.f]; rw [if_neg h5, if_neg h6]) (hj true (by simp [h5, h6]))
end Go.Proofs.YtjphkokfleoinaaDoor.D
