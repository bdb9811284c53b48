/- The reference's small numbers and their texts. -/
import Derived.Test.YtlnneellihkdkaaDoorDx11
import Derived.Test.YtlnneellihkdkaaDoorDx12
import Derived.Test.YtlnneellihkdkaaDoorHRefA
import Derived.Test.YtlnneellihkdkaaDoorHCan
namespace Go.Proofs.YtlnneellihkdkaaDoor.D
open Go.RowKit Go.Proofs.YtlnneellihkdkaaDoorW.PrintWords Go.Proofs.YtlnneellihkdkaaDoorW.PrintLast Go.Proofs.YtlnneellihkdkaaDoorW.PrintMore
set_option linter.unusedVariables false
set_option linter.unusedSimpArgs false

theorem up_wrap (i : Nat) (h : i < 9223372036854775807) : wrap64 ((i : Int) + 1) = ((i + 1 : Nat) : Int) := by unfold wrap64; omega

def noMinus (l : List UInt8) : List UInt8 := l.filter (· ≠ 45)
theorem noMinus_cons (c : UInt8) (l : List UInt8) : noMinus (c :: l) = if c = 45 then noMinus l else c :: noMinus l := by
  unfold noMinus
  by_cases h : c = 45
  · rw [if_pos h, List.filter_cons_of_neg (by simp [h])]
  · rw [if_neg h, List.filter_cons_of_pos (by simp [h])]

/-- The loop that reckons a small one: below nought, so that the least fits. -/
theorem small_l0 (s : ByteArray) (hs : s.size ≤ 1000) (hp : 0 < s.data.toList.length) (hd : ∀ c ∈ s.data.toList, c ≠ 45 → N.digU c = true) (d : Nat) : ∀ i : Nat, s.data.toList.length - i = d → i ≤ s.data.toList.length → ∀ v : Nat,
    N.dvF v (noMinus (s.data.toList.drop i)) ≤ 9223372036854775808 →
    Ev (fun k => rostrumref09_Small.l0 k s (-(v : Int)) i) (if negU s.data.toList = true then (-(N.dvF v (noMinus (s.data.toList.drop i)) : Int), true) else (wrap64 (N.dvF v (noMinus (s.data.toList.drop i)) : Int), true)) := by
  have hsz := size_u s
  have h0 := bt_u s 0 hp
  rw [show ((0 : Nat) : Int) = 0 from rfl] at h0
  have hneg : (bt s 0 = 45) ↔ negU s.data.toList = true := by
    rw [h0]
    simp only [negU, List.head?_eq_getElem?, List.getElem?_eq_getElem hp, beq_iff_eq, Option.some.injEq]
    exact ⟨fun e => UInt8.toNat_inj.1 (by have : (45 : UInt8).toNat = 45 := rfl; omega), fun e => by rw [e]; rfl⟩
  induction d with
  | zero =>
    intro i hdi hi v hv
    rw [List.drop_eq_nil_of_le (by omega)]
    refine Ev.step (f := fun _ => some (if negU s.data.toList = true then (-(v : Int), true) else (wrap64 (v : Int), true))) (fun k => ?_) (Ev.now _)
    simp only [rostrumref09_Small.l0]
    rw [if_neg (by omega), if_pos (by omega)]
    by_cases hn : negU s.data.toList = true
    · rw [if_pos (hneg.2 hn), if_pos hn]
    · rw [if_neg (fun e => hn (hneg.1 e)), if_neg hn, Int.neg_neg]
  | succ d ih =>
    intro i hdi hi v hv
    have hlt : i < s.data.toList.length := by omega
    have hb := bt_u s i hlt
    rw [List.drop_eq_getElem_cons hlt] at hv ⊢
    have hdc := hd s.data.toList[i] (List.getElem_mem hlt)
    generalize s.data.toList[i] = c at hb hv hdc ⊢
    rw [noMinus_cons] at hv ⊢
    by_cases h45 : c = 45
    · rw [if_pos h45] at hv ⊢
      refine Ev.step (fun k => ?_) (ih (i + 1) (by omega) (by omega) v hv)
      simp only [rostrumref09_Small.l0]
      rw [if_pos (by omega), if_pos (by omega), if_pos (by rw [hb, h45]; rfl), up_wrap i (by omega)]
    · rw [if_neg h45] at hv ⊢
      have hcd := hdc h45
      simp only [N.digU, Bool.and_eq_true, decide_eq_true_eq] at hcd
      rw [N.dvF_cons] at hv ⊢
      have hge := N.dvF_ge (noMinus (s.data.toList.drop (i + 1))) (v * 10 + (c.toNat - 48))
      refine Ev.step (fun k => ?_) (ih (i + 1) (by omega) (by omega) (v * 10 + (c.toNat - 48)) hv)
      simp only [rostrumref09_Small.l0]
      rw [if_pos (by omega), if_pos (by omega), if_neg (by rw [hb]; intro e; exact h45 (UInt8.toNat_inj.1 (by have : (45 : UInt8).toNat = 45 := rfl; omega))), up_wrap i (by omega), hb]
      congr 1
      rw [show ((c.toNat : Int) - 48) % 256 = (c.toNat : Int) - 48 by omega]
      unfold wrap64
      omega

theorem least_can : N.canU [45, 57, 50, 50, 51, 51, 55, 50, 48, 51, 54, 56, 53, 52, 55, 55, 53, 56, 48, 56] = true := by decide
theorem most_can : N.canU [57, 50, 50, 51, 51, 55, 50, 48, 51, 54, 56, 53, 52, 55, 55, 53, 56, 48, 55] = true := by decide
theorem least_val : N.valU [45, 57, 50, 50, 51, 51, 55, 50, 48, 51, 54, 56, 53, 52, 55, 55, 53, 56, 48, 56] = -9223372036854775808 := by decide
theorem most_val : N.valU [57, 50, 50, 51, 51, 55, 50, 48, 51, 54, 56, 53, 52, 55, 55, 53, 56, 48, 55] = 9223372036854775807 := by decide

theorem small_ref (s : ByteArray) (hs : s.size ≤ 9223372036854775807) : Ev (fun k => rostrumref09_Small.f k s) (smallU s.data.toList) := by
  simp only [rostrumref09_Small.f]
  refine Ev.bind (can_ref_u s hs) ?_
  unfold smallU
  cases hc : N.canU s.data.toList with
  | false => exact Ev.congr (fun k => if_neg (by simp)) (by simpa using Ev.now (0, false))
  | true =>
    rw [if_pos rfl]
    refine Ev.congr (fun k => if_pos rfl) ?_
    have c1 := compare_ref s ⟨#[45, 57, 50, 50, 51, 51, 55, 50, 48, 51, 54, 56, 53, 52, 55, 55, 53, 56, 48, 56]⟩ hs (by decide)
    have c2 := compare_ref s ⟨#[57, 50, 50, 51, 51, 55, 50, 48, 51, 54, 56, 53, 52, 55, 55, 53, 56, 48, 55]⟩ hs (by decide)
    rw [if_pos ⟨hc, least_can⟩, least_val] at c1
    rw [if_pos ⟨hc, most_can⟩, most_val] at c2
    refine Ev.bind c1 (Ev.bind c2 ?_)
    obtain ⟨hf, hd⟩ := digits_filter hc
    obtain ⟨hp, hl⟩ := can_len hc
    have hsz := size_u s
    obtain ⟨vn, vp⟩ := val_neg hc
    have bad : Ev (fun k => rostrumref09_Small.j0 k s true) (0, false) := Ev.step (f := fun _ => some (0, false)) (fun k => by simp only [rostrumref09_Small.j0]; rw [if_pos trivial]) (Ev.now _)
    have good : N.inInt (N.valU s.data.toList) = true → Ev (fun k => rostrumref09_Small.j0 k s false) (N.valU s.data.toList, true) := by
      intro hi
      simp only [N.inInt, Bool.and_eq_true, decide_eq_true_eq] at hi
      have hdv : N.dv (N.digits s.data.toList) ≤ 9223372036854775808 := by
        cases hn : negU s.data.toList with
        | true => have := (vn hn).1; omega
        | false => have := vp hn; omega
      have := small_l0 s (by omega) hp (fun c hc2 => hd c hc2) _ 0 rfl (Nat.zero_le _) 0 (by rw [List.drop_zero]; show N.dvF 0 (noMinus _) ≤ _; unfold noMinus; rw [hf]; exact hdv)
      rw [List.drop_zero] at this
      unfold noMinus at this
      rw [hf] at this
      refine Ev.step (f := fun k => rostrumref09_Small.l0 k s (-((0 : Nat) : Int)) ((0 : Nat) : Int)) (fun k => by simp only [rostrumref09_Small.j0]; rw [if_neg (by simp)]; rfl) ?_
      have e : (if negU s.data.toList = true then (-(N.dvF 0 (N.digits s.data.toList) : Int), true) else (wrap64 (N.dvF 0 (N.digits s.data.toList) : Int), true)) = (N.valU s.data.toList, true) := by
        cases hn : negU s.data.toList with
        | true => rw [if_pos rfl, (vn hn).1]; rfl
        | false =>
          rw [if_neg (by simp), vp hn]
          have h1 := vp hn
          show (wrap64 (N.dv (N.digits s.data.toList) : Int), true) = _
          rw [show wrap64 (N.dv (N.digits s.data.toList) : Int) = (N.dv (N.digits s.data.toList) : Int) from by unfold wrap64; omega]
      rw [e] at this
      exact this
    by_cases h1 : N.valU s.data.toList < -9223372036854775808
    · have e1 : cmpI (N.valU s.data.toList) (-9223372036854775808) = -1 := by unfold cmpI; rw [if_pos h1]
      rw [if_neg (by simp [N.inInt]; omega)]
      exact Ev.congr (fun k => by simp only [e1]; rw [if_pos (by omega)]) bad
    · have e1 : ¬ cmpI (N.valU s.data.toList) (-9223372036854775808) < 0 := by unfold cmpI; rw [if_neg h1]; split <;> omega
      refine Ev.congr (fun k => if_neg e1) ?_
      by_cases h2 : N.valU s.data.toList > 9223372036854775807
      · have e2 : cmpI (N.valU s.data.toList) 9223372036854775807 = 1 := by unfold cmpI; rw [if_neg (by omega), if_neg (by omega)]
        rw [if_neg (by simp [N.inInt]; omega)]
        exact Ev.congr (fun k => by simp only [e2]; rfl) bad
      · have e2 : decide (cmpI (N.valU s.data.toList) 9223372036854775807 > 0) = false := by
          refine decide_eq_false ?_
          unfold cmpI
          split
          · omega
          · split <;> omega
        have hi : N.inInt (N.valU s.data.toList) = true := by simp [N.inInt]; omega
        rw [if_pos hi]
        exact Ev.congr (fun k => by simp only [e2]) (good hi)

/-! ### Of -/
theorem strOf_one (u : Nat) (h : u < 10) : strOfNums [(wrap64 (48 + (u : Int))) % 256] = baU [UInt8.ofNat (48 + u)] := by
  unfold strOfNums baU
  rw [show (wrap64 (48 + (u : Int))) % 256 = ((48 + u : Nat) : Int) from by unfold wrap64; omega, List.map_cons, List.map_nil, Int.toNat_natCast]
theorem baU_app (a b : List UInt8) : baU a ++ baU b = baU (a ++ b) := by
  unfold baU
  apply ByteArray.ext
  simp
theorem baU_toList (l : List UInt8) : (baU l).toList = l := by rw [Lib.toList_data, baU_list]
theorem of_l0_ref (n : Nat) : ∀ (u : Nat) (x : List UInt8), u ≤ n → x.length + u ≤ 9223372036854775807 → (0 < u ∨ x = [] → Ev (fun k => rostrumref09_Of.l0 k (u : Int) (baU x)) (baU (Lib.decDigits u ++ x))) ∧ (u = 0 → x ≠ [] → Ev (fun k => rostrumref09_Of.l0 k (u : Int) (baU x)) (baU x)) := by
  have stop : ∀ x : List UInt8, x ≠ [] → Ev (fun k => rostrumref09_Of.l0 k 0 (baU x)) (baU x) := by
    intro x hx
    refine Ev.step (f := fun _ => some (baU x)) (fun k => ?_) (Ev.now _)
    simp only [rostrumref09_Of.l0]
    rw [if_neg (by omega), if_neg (by rw [baU_toList]; exact hx)]
  induction n with
  | zero =>
    intro u x hu hm
    obtain rfl : u = 0 := by omega
    refine ⟨fun h => ?_, fun _ hne => stop x hne⟩
    obtain rfl : x = [] := by
      rcases h with h | h
      · omega
      · exact h
    have := stop [48] (by simp)
    refine Ev.step (fun k => ?_) (show Ev _ (baU (Lib.decDigits 0 ++ [])) by rw [show Lib.decDigits 0 ++ [] = [48] from by rw [Lib.decDigits]; rfl]; exact this)
    simp only [rostrumref09_Of.l0]
    rw [if_neg (by omega), if_pos (by rw [baU_toList])]
    have e := strOf_one 0 (by omega)
    simp only [Option.bind_some]
    rw [show wrap64 (48 + Int.tmod ((0 : Nat) : Int) 10) % 256 = wrap64 (48 + ((0 : Nat) : Int)) % 256 from rfl, e, if_pos (by rw [baU_size, baU_size]; simp), baU_app, show wrap64 (Int.tdiv ((0 : Nat) : Int) 10) = 0 from by unfold wrap64; simp]
    rfl
  | succ n ih =>
    intro u x hu hm
    refine ⟨fun h => ?_, fun h0 hne => by subst h0; exact stop x hne⟩
    rcases Nat.eq_zero_or_pos u with h0 | h0
    · subst h0
      exact (ih 0 x (by omega) (by omega)).1 h
    · have h1 := strOf_one (u % 10) (by omega)
      have hr : Lib.decDigits u ++ x = if u < 10 then UInt8.ofNat (48 + u % 10) :: x else Lib.decDigits (u / 10) ++ (UInt8.ofNat (48 + u % 10) :: x) := by
        rw [Lib.decDigits]
        by_cases h10 : u < 10
        · rw [dif_pos h10, if_pos h10, Nat.mod_eq_of_lt h10]; rfl
        · rw [dif_neg h10, if_neg h10, List.append_assoc]; rfl
      have next : Ev (fun k => rostrumref09_Of.l0 k ((u / 10 : Nat) : Int) (baU (UInt8.ofNat (48 + u % 10) :: x))) (baU (Lib.decDigits u ++ x)) := by
        by_cases h10 : u < 10
        · rw [hr, if_pos h10, show u / 10 = 0 by omega]
          exact stop _ (by simp)
        · rw [hr, if_neg h10]
          exact (ih (u / 10) (UInt8.ofNat (48 + u % 10) :: x) (by omega) (by rw [List.length_cons]; omega)).1 (.inl (by omega))
      refine Ev.step (fun k => ?_) next
      simp only [rostrumref09_Of.l0]
      rw [if_pos (by omega)]
      simp only [Option.bind_some]
      rw [show wrap64 (48 + Int.tmod (u : Int) 10) % 256 = wrap64 (48 + ((u % 10 : Nat) : Int)) % 256 from rfl, h1, if_pos (by rw [baU_size, baU_size, List.length_singleton]; omega), baU_app,
        show wrap64 (Int.tdiv (u : Int) 10) = ((u / 10 : Nat) : Int) from by
          have : Int.tdiv (u : Int) 10 = ((u / 10 : Nat) : Int) := rfl
          rw [this]; unfold wrap64; omega]
      rfl
theorem of_pos (u : Nat) (h : u ≤ 9223372036854775807) : Ev (fun k => rostrumref09_Of.l0 k (u : Int) (⟨#[]⟩ : ByteArray)) (baU (Lib.decDigits u)) := by
  have := (of_l0_ref u u [] (Nat.le_refl _) (by simpa using h)).1 (.inr rfl)
  rwa [List.append_nil] at this
theorem ofn_pos (u : Nat) (h : u ≤ 9223372036854775807) : Ev (fun k => rostrumref09_Of.f k (u : Int)) (baU (Lib.decDigits u)) := by
  refine Ev.step (fun k => ?_) (of_pos u h)
  simp only [rostrumref09_Of.f]
  rw [if_neg (by omega), if_neg (by omega)]
theorem of_ref_ev (n : Int) (h0 : -9223372036854775808 ≤ n) (h1 : n ≤ 9223372036854775807) : Ev (fun k => rostrumref09_Of.f k n) (baU (Lib.itoa n)) := by
  by_cases hm : n = -9223372036854775808
  · have hi := N.itoa_val least_can
    rw [least_val] at hi
    rw [hm, hi]
    refine Ev.step (f := fun _ => some (baU [45, 57, 50, 50, 51, 51, 55, 50, 48, 51, 54, 56, 53, 52, 55, 55, 53, 56, 48, 56])) (fun k => ?_) (Ev.now _)
    simp only [rostrumref09_Of.f]
    rw [if_pos trivial]; rfl
  · by_cases hn : n < 0
    · have hw : wrap64 (-n) = ((n.natAbs : Nat) : Int) := by unfold wrap64; omega
      have e : Lib.itoa n = 45 :: Lib.decDigits n.natAbs := by unfold Lib.itoa; rw [if_pos hn]
      have hlen := N.dec_len n.natAbs 30 (by omega) (Nat.lt_of_le_of_lt (show n.natAbs ≤ 9223372036854775807 by omega) (by decide))
      rw [e]
      refine Ev.step (f := fun k => (rostrumref09_Of.f k (wrap64 (-n))).bind fun t168 => if 1 + t168.size ≤ 9223372036854775807 then some ((⟨#[45]⟩ : ByteArray) ++ t168) else none) (fun k => ?_) ?_
      · simp only [rostrumref09_Of.f]
        rw [if_neg hm, if_pos hn]
      · rw [hw]
        refine Ev.bind (ofn_pos _ (by omega)) ?_
        refine Ev.congr (fun k => ?_) (Ev.now _)
        rw [if_pos (by rw [baU_size]; omega)]
        rw [show (⟨#[45]⟩ : ByteArray) = baU [45] from rfl, baU_app]; rfl
    · have e : Lib.itoa n = Lib.decDigits n.toNat := by unfold Lib.itoa; rw [if_neg hn]
      have := ofn_pos n.toNat (by omega)
      rw [show ((n.toNat : Nat) : Int) = n by omega] at this
      rw [e]; exact this
end Go.Proofs.YtlnneellihkdkaaDoor.D
