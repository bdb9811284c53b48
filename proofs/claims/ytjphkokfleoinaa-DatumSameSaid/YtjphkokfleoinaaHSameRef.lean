/- The reference's Same is the plain function same. -/
import Derived.Test.YtjphkokfleoinaaDx2
import Derived.Test.YtjphkokfleoinaaHSame
import Derived.Test.YtjphkokfleoinaaHKind
namespace Go.Proofs.Ytjphkokfleoinaa.D
open Go.RowKit Go.Proofs.YtjphkokfleoinaaW.PrintWords Go.Proofs.YtjphkokfleoinaaW.PrintLast Go.Proofs.YtjphkokfleoinaaW.PrintMore
set_option linter.unusedVariables false

theorem wrap_up {i n : Nat} (h : i < n) (hn : n ≤ 9223372036854775807) : wrap64 ((i : Int) + 1) = ((i + 1 : Nat) : Int) := by
  unfold wrap64; omega

theorem rd_cast {l : List S24} {i : Nat} (h : i < l.length) : rd_T24 l (i : Int) = l[i] := by
  simp only [rd_T24, Int.toNat_natCast, List.getD_eq_getElem?_getD, List.getElem?_eq_getElem h, Option.getD_some]

theorem sameL_drop {l l' : List S24} {i : Nat} (h : i < l.length) (h' : i < l'.length) :
    sameL (l.drop i) (l'.drop i) = (same (rd_T24 l i) (rd_T24 l' i) && sameL (l.drop (i + 1)) (l'.drop (i + 1))) := by
  rw [List.drop_eq_getElem_cons h, List.drop_eq_getElem_cons h', rd_cast h, rd_cast h']
  simp only [sameL]

/-- What the reference tells of elements. -/
def RefAt (a b : S24) : Prop := Ev (fun k => rostrumref10_Same.f k a.f0 a.f1 a.f2 a.f3 b.f0 b.f1 b.f2 b.f3) (same a b)

theorem ref_l1 (a0 : Int) (a1 : ByteArray) (a2 a3 : List S24) (b0 : Int) (b1 : ByteArray) (b2 b3 : List S24) (hl : a3.length = b3.length) (hm : a3.length ≤ 9223372036854775807)
    (hf : ∀ i, i < a3.length → RefAt (rd_T24 a3 (i : Nat)) (rd_T24 b3 i)) (d : Nat) : ∀ i : Nat, a3.length - i = d → i ≤ a3.length →
    Ev (fun k => rostrumref10_Same.l1 k (a3.length : Int) i a0 a1 a2 a3 b0 b1 b2 b3) (sameL (a3.drop i) (b3.drop i)) := by
  induction d with
  | zero =>
    intro i hd hi
    have hz : sameL (a3.drop i) (b3.drop i) = true := by rw [List.drop_eq_nil_of_le (by omega), List.drop_eq_nil_of_le (by omega)]; rfl
    rw [hz]
    refine Ev.step (f := fun _ => some true) (fun k => ?_) (Ev.now _)
    simp only [rostrumref10_Same.l1]
    rw [if_neg (by omega)]
  | succ d ih =>
    intro i hd hi
    have hlt : i < a3.length := by omega
    refine Ev.step (f := fun k => (rostrumref10_Same.f k (rd_T24 a3 i).f0 (rd_T24 a3 i).f1 (rd_T24 a3 i).f2 (rd_T24 a3 i).f3 (rd_T24 b3 i).f0 (rd_T24 b3 i).f1 (rd_T24 b3 i).f2 (rd_T24 b3 i).f3).bind fun t =>
      if t = true then rostrumref10_Same.l1 k (a3.length : Int) ((i + 1 : Nat) : Int) a0 a1 a2 a3 b0 b1 b2 b3 else some false) (fun k => ?_) ?_
    · simp only [rostrumref10_Same.l1]
      rw [if_pos (by omega), if_pos (by omega), if_pos (by omega), if_pos (by omega), wrap_up hlt hm]
    · refine Ev.bind (hf i hlt) ?_
      rw [sameL_drop hlt (by omega)]
      cases hs : same (rd_T24 a3 i) (rd_T24 b3 i) with
      | true => simpa using ih (i + 1) (by omega) (by omega)
      | false => simpa using Ev.now false

theorem ref_l0 (a0 : Int) (a1 : ByteArray) (a2 a3 : List S24) (b0 : Int) (b1 : ByteArray) (b2 b3 : List S24) (hl : a2.length = b2.length) (hm : a2.length ≤ 9223372036854775807)
    (hf : ∀ i, i < a2.length → RefAt (rd_T24 a2 (i : Nat)) (rd_T24 b2 i)) (x : Bool) (hx : Ev (fun k => rostrumref10_Same.l1 k (a3.length : Int) 0 a0 a1 a2 a3 b0 b1 b2 b3) x) (d : Nat) : ∀ i : Nat, a2.length - i = d → i ≤ a2.length →
    Ev (fun k => rostrumref10_Same.l0 k (a2.length : Int) i a0 a1 a2 a3 b0 b1 b2 b3) (sameL (a2.drop i) (b2.drop i) && x) := by
  induction d with
  | zero =>
    intro i hd hi
    have hz : sameL (a2.drop i) (b2.drop i) = true := by rw [List.drop_eq_nil_of_le (by omega), List.drop_eq_nil_of_le (by omega)]; rfl
    rw [hz, Bool.true_and]
    refine Ev.step (fun k => ?_) hx
    simp only [rostrumref10_Same.l0]
    rw [if_neg (by omega)]
  | succ d ih =>
    intro i hd hi
    have hlt : i < a2.length := by omega
    refine Ev.step (f := fun k => (rostrumref10_Same.f k (rd_T24 a2 i).f0 (rd_T24 a2 i).f1 (rd_T24 a2 i).f2 (rd_T24 a2 i).f3 (rd_T24 b2 i).f0 (rd_T24 b2 i).f1 (rd_T24 b2 i).f2 (rd_T24 b2 i).f3).bind fun t =>
      if t = true then rostrumref10_Same.l0 k (a2.length : Int) ((i + 1 : Nat) : Int) a0 a1 a2 a3 b0 b1 b2 b3 else some false) (fun k => ?_) ?_
    · simp only [rostrumref10_Same.l0]
      rw [if_pos (by omega), if_pos (by omega), if_pos (by omega), if_pos (by omega), wrap_up hlt hm]
    · refine Ev.bind (hf i hlt) ?_
      rw [sameL_drop hlt (by omega)]
      cases hs : same (rd_T24 a2 i) (rd_T24 b2 i) with
      | true => simpa using ih (i + 1) (by omega) (by omega)
      | false => simpa using Ev.now false

theorem ref_same (n : Nat) : ∀ a b : S24, SizeOf.sizeOf a ≤ n → Fit a → RefAt a b := by
  induction n with
  | zero => intro a b h; cases a; simp at h
  | succ n ih =>
    intro a b hn hfit
    obtain ⟨a0, a1, a2, a3⟩ := a
    obtain ⟨b0, b1, b2, b3⟩ := b
    obtain ⟨_, _, hm2, hm3, hf2, hf3⟩ := hfit
    rw [FitL_iff] at hf2 hf3
    have e2 : ∀ i, i < a2.length → RefAt (rd_T24 a2 (i : Nat)) (rd_T24 b2 i) := fun i h => ih _ _ (by
      have := List.sizeOf_lt_of_mem (rd_mem h)
      simp only [S24.mk.sizeOf_spec] at hn
      omega) (hf2 _ (rd_mem h))
    have e3 : ∀ i, i < a3.length → RefAt (rd_T24 a3 (i : Nat)) (rd_T24 b3 i) := fun i h => ih _ _ (by
      have := List.sizeOf_lt_of_mem (rd_mem h)
      simp only [S24.mk.sizeOf_spec] at hn
      omega) (hf3 _ (rd_mem h))
    show Ev (fun k => rostrumref10_Same.f k a0 a1 a2 a3 b0 b1 b2 b3) (same ⟨a0, a1, a2, a3⟩ ⟨b0, b1, b2, b3⟩)
    have hj : Ev (fun k => rostrumref10_Same.j0 k true a0 a1 a2 a3 b0 b1 b2 b3) false :=
      Ev.step (f := fun _ => some false) (fun k => by simp only [rostrumref10_Same.j0, if_true]) (Ev.now _)
    by_cases h0 : a0 = b0
    · by_cases h1 : a1.toList = b1.toList
      · by_cases h2 : a2.length = b2.length
        · refine Ev.step (f := fun k => rostrumref10_Same.j0 k ((a3.length : Int) != (b3.length : Int)) a0 a1 a2 a3 b0 b1 b2 b3) (fun k => by simp only [rostrumref10_Same.f]; rw [if_pos h0, if_pos h1, if_pos (by omega)]) ?_
          by_cases h3 : a3.length = b3.length
          · rw [show ((a3.length : Int) != (b3.length : Int)) = false from by simp [h3]]
            refine Ev.step (f := fun k => rostrumref10_Same.l0 k (a2.length : Int) 0 a0 a1 a2 a3 b0 b1 b2 b3) (fun k => by simp only [rostrumref10_Same.j0]; rw [if_neg (by simp)]) ?_
            have hx := ref_l1 a0 a1 a2 a3 b0 b1 b2 b3 h3 hm3 e3 _ 0 rfl (Nat.zero_le _)
            have hy := ref_l0 a0 a1 a2 a3 b0 b1 b2 b3 h2 hm2 e2 _ hx _ 0 rfl (Nat.zero_le _)
            simp only [List.drop_zero] at hy
            simpa [same, h0, h1] using hy
          · rw [show ((a3.length : Int) != (b3.length : Int)) = true from by simp; omega]
            simpa [same, sameL_len h3] using hj
        · refine Ev.step (f := fun k => rostrumref10_Same.j0 k true a0 a1 a2 a3 b0 b1 b2 b3) (fun k => by simp only [rostrumref10_Same.f]; rw [if_pos h0, if_pos h1, if_neg (by omega)]) ?_
          simpa [same, sameL_len h2] using hj
      · refine Ev.step (f := fun k => rostrumref10_Same.j0 k true a0 a1 a2 a3 b0 b1 b2 b3) (fun k => by simp only [rostrumref10_Same.f]; rw [if_pos h0, if_neg h1]) ?_
        have h1' : (a1.toList == b1.toList) = false := beq_eq_false_iff_ne.2 h1
        rw [show same ⟨a0, a1, a2, a3⟩ ⟨b0, b1, b2, b3⟩ = false from by simp only [same, h1', Bool.false_and, Bool.and_false]]
        exact hj
    · refine Ev.step (f := fun k => rostrumref10_Same.j0 k true a0 a1 a2 a3 b0 b1 b2 b3) (fun k => by simp only [rostrumref10_Same.f]; rw [if_neg h0]) ?_
      have h0' : (a0 == b0) = false := beq_eq_false_iff_ne.2 h0
      rw [show same ⟨a0, a1, a2, a3⟩ ⟨b0, b1, b2, b3⟩ = false from by simp only [same, h0', Bool.false_and]]
      exact hj

theorem same_refl (n : Nat) : ∀ a : S24, SizeOf.sizeOf a ≤ n → same a a = true := by
  induction n with
  | zero => intro a h; cases a; simp at h
  | succ n ih =>
    intro a hn
    obtain ⟨a0, a1, a2, a3⟩ := a
    simp only [S24.mk.sizeOf_spec] at hn
    have hL : ∀ l : List S24, (∀ x ∈ l, same x x = true) → sameL l l = true := by
      intro l; induction l with
      | nil => intro _; rfl
      | cons x l ihl => intro h; simp only [sameL, h x (List.mem_cons_self ..), ihl (fun y hy => h y (List.mem_cons_of_mem _ hy)), Bool.and_self]
    simp only [same, beq_self_eq_true, Bool.true_and]
    rw [hL a2 (fun x hx => ih x (by have := List.sizeOf_lt_of_mem hx; omega)), hL a3 (fun x hx => ih x (by have := List.sizeOf_lt_of_mem hx; omega))]; rfl

theorem same_symm (n : Nat) : ∀ a b : S24, SizeOf.sizeOf a ≤ n → same a b = same b a := by
  induction n with
  | zero => intro a b h; cases a; simp at h
  | succ n ih =>
    intro a b hn
    obtain ⟨a0, a1, a2, a3⟩ := a
    obtain ⟨b0, b1, b2, b3⟩ := b
    simp only [S24.mk.sizeOf_spec] at hn
    have hL : ∀ l m : List S24, (∀ x ∈ l, ∀ y, same x y = same y x) → sameL l m = sameL m l := by
      intro l; induction l with
      | nil => intro m _; cases m <;> rfl
      | cons x l ihl => intro m h; cases m with
        | nil => rfl
        | cons y m => simp only [sameL, h x (List.mem_cons_self ..) y, ihl m (fun z hz => h z (List.mem_cons_of_mem _ hz))]
    simp only [same]
    rw [hL a2 b2 (fun x hx y => ih x y (by have := List.sizeOf_lt_of_mem hx; omega)), hL a3 b3 (fun x hx y => ih x y (by have := List.sizeOf_lt_of_mem hx; omega)), Bool.beq_comm (a := a0), Bool.beq_comm (a := a1.toList)]

end Go.Proofs.Ytjphkokfleoinaa.D
