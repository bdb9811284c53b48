/- The reference's numbers: digits, sizes, comparisons, small ones, texts; what they tell, plain. -/
import Derived.Test.YtlnneellihkdkaaDoorDx10
import Derived.Test.YtlnneellihkdkaaDoorDx11
import Derived.Test.YtlnneellihkdkaaDoorDx12
import Derived.Test.YtlnneellihkdkaaDoorHCan
namespace Go.Proofs.YtlnneellihkdkaaDoor.D
open Go.RowKit Go.Proofs.YtlnneellihkdkaaDoorW.PrintWords Go.Proofs.YtlnneellihkdkaaDoorW.PrintLast Go.Proofs.YtlnneellihkdkaaDoorW.PrintMore
set_option linter.unusedVariables false
set_option linter.unusedSimpArgs false

/-! ### lists of digits, the lowest first -/
def vB (B : Int) : List Int → Int
  | [] => 0
  | x :: l => x + B * vB B l
def OkB (B : Int) (l : List Int) : Prop := ∀ x ∈ l, 0 ≤ x ∧ x < B
theorem vB_append (B : Int) (l m : List Int) : vB B (l ++ m) = vB B l + B ^ l.length * vB B m := by
  induction l with
  | nil => simp [vB]
  | cons x l ih =>
    rw [List.cons_append, vB, ih, vB, List.length_cons, Int.pow_succ, Int.mul_add, Int.add_assoc, Int.mul_comm (B ^ l.length) B, Int.mul_assoc]
theorem vB_bounds (B : Int) (hB : 1 ≤ B) (l : List Int) (h : OkB B l) : 0 ≤ vB B l ∧ vB B l < B ^ l.length := by
  induction l with
  | nil => simp [vB]
  | cons x l ih =>
    obtain ⟨h1, h2⟩ := ih (fun y hy => h y (List.mem_cons_of_mem _ hy))
    obtain ⟨h3, h4⟩ := h x List.mem_cons_self
    have h5 : 0 ≤ B * vB B l := Int.mul_nonneg (by omega) h1
    have h6 : B * vB B l ≤ B * (B ^ l.length - 1) := Int.mul_le_mul_of_nonneg_left (by omega) (by omega)
    rw [Int.mul_sub, Int.mul_one] at h6
    rw [vB, List.length_cons, Int.pow_succ, Int.mul_comm (B ^ l.length) B]
    omega
theorem OkB_take {B : Int} {l : List Int} (h : OkB B l) (n : Nat) : OkB B (l.take n) := fun x hx => h x (List.mem_of_mem_take hx)
theorem vB_take (B : Int) (l : List Int) (n : Nat) : vB B (l.take (n + 1)) = vB B (l.take n) + B ^ n * l.getD n 0 := by
  by_cases h : n < l.length
  · rw [List.take_succ_eq_append_getElem h, vB_append, List.length_take, Nat.min_eq_left (by omega)]
    simp [vB, List.getD_eq_getElem?_getD, List.getElem?_eq_getElem h]
  · rw [List.take_of_length_le (by omega), List.take_of_length_le (by omega), List.getD_eq_getElem?_getD, List.getElem?_eq_none (by omega)]
    simp
theorem getD_ok {B : Int} (hB : 1 ≤ B) {l : List Int} (h : OkB B l) (n : Nat) : 0 ≤ l.getD n 0 ∧ l.getD n 0 < B := by
  by_cases hn : n < l.length
  · rw [List.getD_eq_getElem?_getD, List.getElem?_eq_getElem hn]
    exact h _ (List.getElem_mem hn)
  · rw [List.getD_eq_getElem?_getD, List.getElem?_eq_none (by omega)]
    simp; omega
theorem pow_ge1 (B : Int) (hB : 1 ≤ B) (n : Nat) : 1 ≤ B ^ n := by
  induction n with
  | zero => simp
  | succ n ih =>
    rw [Int.pow_succ]
    have : 1 * B ≤ B ^ n * B := Int.mul_le_mul_of_nonneg_right ih (by omega)
    omega
theorem pow_mono (B : Int) (hB : 1 ≤ B) {m n : Nat} (h : m ≤ n) : B ^ m ≤ B ^ n := by
  obtain ⟨d, rfl⟩ := Nat.exists_eq_add_of_le h
  rw [Int.pow_add]
  have h1 := pow_ge1 B hB d
  have h2 := pow_ge1 B hB m
  have : B ^ m * 1 ≤ B ^ m * B ^ d := Int.mul_le_mul_of_nonneg_left h1 (by omega)
  omega
def cmpI (x y : Int) : Int := if x < y then -1 else if x = y then 0 else 1
/-- One place more decides, unless both have the same there. -/
theorem cmp_step (B : Int) (hB : 1 ≤ B) (a b : List Int) (ha : OkB B a) (hb : OkB B b) (n : Nat) :
    cmpI (vB B (a.take (n + 1))) (vB B (b.take (n + 1))) = if a.getD n 0 = b.getD n 0 then cmpI (vB B (a.take n)) (vB B (b.take n)) else if a.getD n 0 < b.getD n 0 then -1 else 1 := by
  have h1 := vB_bounds B hB _ (OkB_take ha n)
  have h2 := vB_bounds B hB _ (OkB_take hb n)
  have hpow : ∀ l : List Int, B ^ (l.take n).length ≤ B ^ n := fun l => pow_mono B hB (by rw [List.length_take]; omega)
  have p1 := hpow a
  have p2 := hpow b
  rw [vB_take, vB_take]
  generalize a.getD n 0 = x
  generalize b.getD n 0 = y
  generalize vB B (a.take n) = u at *
  generalize vB B (b.take n) = v at *
  generalize B ^ n = p at *
  by_cases e : x = y
  · subst e
    rw [if_pos rfl]
    unfold cmpI
    by_cases h : u < v
    · rw [if_pos h, if_pos (by omega)]
    · rw [if_neg h, if_neg (by omega)]
      by_cases h' : u = v
      · rw [if_pos h', if_pos (by omega)]
      · rw [if_neg h', if_neg (by omega)]
  · rw [if_neg e]
    unfold cmpI
    by_cases h : x < y
    · rw [if_pos h]
      have : p * (x + 1) ≤ p * y := Int.mul_le_mul_of_nonneg_left (by omega) (by omega)
      rw [Int.mul_add, Int.mul_one] at this
      rw [if_pos (by omega)]
    · rw [if_neg h]
      have : p * (y + 1) ≤ p * x := Int.mul_le_mul_of_nonneg_left (by omega) (by omega)
      rw [Int.mul_add, Int.mul_one] at this
      rw [if_neg (by omega), if_neg (by omega)]

/-! ### the reference's size -/
theorem down_ (n : Nat) (h : n ≤ 9223372036854775807) : wrap64 ((n : Int) - 1) = (n : Int) - 1 := by unfold wrap64; omega
theorem at_nat (l : List Int) (n : Nat) : rostrumref09_at.f l (n : Int) = some (l.getD n 0) := by
  unfold rostrumref09_at.f
  by_cases h : n < l.length
  · rw [if_neg (by omega), if_pos (by omega), if_pos (by omega)]
    simp [rd]
  · rw [if_pos (by omega), List.getD_eq_getElem?_getD, List.getElem?_eq_none (by omega)]; rfl
theorem size_l0_ref (a b : List Int) (B : Int) (hB : 1 ≤ B) (ha : OkB B a) (hb : OkB B b) : ∀ n : Nat, n ≤ 9223372036854775807 → Ev (fun k => rostrumref09_size.l0 k a b ((n : Int) - 1)) (cmpI (vB B (a.take n)) (vB B (b.take n))) := by
  intro n
  induction n with
  | zero =>
    intro _
    refine Ev.step (f := fun _ => some (0 : Int)) (fun k => ?_) (by simpa [vB, cmpI] using Ev.now (0 : Int))
    simp only [rostrumref09_size.l0]
    rw [if_neg (by omega)]
  | succ n ih =>
    intro hn
    rw [cmp_step B hB a b ha hb n]
    have e : ((n + 1 : Nat) : Int) - 1 = (n : Int) := by omega
    rw [e]
    by_cases hx : a.getD n 0 = b.getD n 0
    · rw [if_pos hx]
      refine Ev.step (fun k => ?_) (ih (by omega))
      simp only [rostrumref09_size.l0]
      rw [if_pos (by omega)]
      simp only [at_nat, Option.bind_some]
      rw [if_pos hx, down_ n (by omega)]
    · rw [if_neg hx]
      refine Ev.step (f := fun _ => some (if a.getD n 0 < b.getD n 0 then (-1 : Int) else 1)) (fun k => ?_) (Ev.now _)
      simp only [rostrumref09_size.l0]
      rw [if_pos (by omega)]
      simp only [at_nat, Option.bind_some]
      rw [if_neg hx]
      split <;> rfl
theorem mx_nat (a b : Nat) : mx (a : Int) (b : Int) = ((max a b : Nat) : Int) := by unfold mx; split <;> omega
theorem size_ref_ev (a b : List Int) (B : Int) (hB : 1 ≤ B) (ha : OkB B a) (hb : OkB B b) (hla : a.length ≤ 1000000000) (hlb : b.length ≤ 1000000000) : Ev (fun k => rostrumref09_size.f k a b) (cmpI (vB B a) (vB B b)) := by
  have := size_l0_ref a b B hB ha hb (max a.length b.length) (by omega)
  rw [List.take_of_length_le (by omega), List.take_of_length_le (by omega)] at this
  refine Ev.congr (fun k => ?_) this
  simp only [rostrumref09_size.f]
  rw [mx_nat, down_ _ (by omega)]

/-! ### the reference's digits of a text -/
def revD (l : List UInt8) : List Int := l.reverse.map fun c => (c.toNat : Int) - 48
theorem vB_revD (l : List UInt8) (h : l.all N.digU = true) : vB 10 (revD l) = (N.dv l : Int) := by
  induction hl : l.length generalizing l with
  | zero => obtain rfl := List.length_eq_zero_iff.1 hl; rfl
  | succ n ih =>
    have hne : l ≠ [] := by rintro rfl; simp at hl
    obtain ⟨e, c, rfl⟩ : ∃ e c, l = e ++ [c] := ⟨l.dropLast, l.getLast hne, (List.dropLast_concat_getLast hne).symm⟩
    rw [List.all_append, Bool.and_eq_true] at h
    have hc : 48 ≤ c.toNat ∧ c.toNat ≤ 57 := by
      have := h.2
      simpa [N.digU] using this
    have := ih e h.1 (by simpa using hl)
    rw [N.dv_snoc]
    simp only [revD, List.reverse_append, List.reverse_cons, List.reverse_nil, List.nil_append, List.cons_append, List.map_cons, vB] at this ⊢
    rw [this]; omega
theorem ok_revD (l : List UInt8) (h : l.all N.digU = true) : OkB 10 (revD l) := by
  intro x hx
  obtain ⟨c, hc, rfl⟩ := List.mem_map.1 hx
  have := List.all_eq_true.1 h c (List.mem_reverse.1 hc)
  simp only [N.digU, Bool.and_eq_true, decide_eq_true_eq] at this
  omega
theorem size_u (s : ByteArray) : s.size = s.data.toList.length := by rw [Array.length_toList]; rfl
theorem bt_u (s : ByteArray) (i : Nat) (h : i < s.data.toList.length) : bt s (i : Int) = ((s.data.toList[i]).toNat : Int) := by
  have hs : i < s.size := by rw [size_u]; exact h
  obtain ⟨h2, e⟩ := bt_get s i hs
  rw [e]
  simp [bytesOf]

/-- The loop over a text from behind: what is no '-' is taken. -/
theorem of_l0 (s : ByteArray) (hs : s.size ≤ 1000) (neg : Bool) : ∀ n : Nat, n ≤ s.data.toList.length → ∀ acc : List Int, acc.length + n ≤ 1000 → (∀ c ∈ s.data.toList.take n, c ≠ 45 → N.digU c = true) →
    Ev (fun k => rostrumref09_of.l0 k s ((n : Int) - 1) acc neg) (acc ++ revD ((s.data.toList.take n).filter (· ≠ 45)), neg) := by
  intro n
  induction n with
  | zero =>
    intro _ acc _ _
    refine Ev.step (f := fun _ => some (acc, neg)) (fun k => ?_) (by simpa [revD] using Ev.now (acc, neg))
    simp only [rostrumref09_of.l0]
    rw [if_neg (by omega)]
  | succ n ih =>
    intro hn acc ha hd
    have hlt : n < s.data.toList.length := by omega
    have hsz := size_u s
    have e : ((n + 1 : Nat) : Int) - 1 = (n : Int) := by omega
    rw [e, List.take_succ_eq_append_getElem hlt, List.filter_append]
    have hd' : ∀ c ∈ s.data.toList.take n, c ≠ 45 → N.digU c = true := fun c hc => hd c (by rw [List.take_succ_eq_append_getElem hlt]; exact List.mem_append_left _ hc)
    have hc : s.data.toList[n] ≠ 45 → N.digU s.data.toList[n] = true := hd _ (by rw [List.take_succ_eq_append_getElem hlt]; exact List.mem_append_right _ List.mem_cons_self)
    have hbt := bt_u s n hlt
    generalize s.data.toList[n] = c at *
    by_cases h45 : c = 45
    · subst h45
      have hf : List.filter (fun x : UInt8 => decide (x ≠ 45)) [45] = [] := rfl
      rw [hf, List.append_nil]
      refine Ev.step (fun k => ?_) (ih (by omega) acc (by omega) hd')
      simp only [rostrumref09_of.l0]
      rw [if_pos (by omega), if_pos (by omega), if_pos (by omega), if_pos (by rw [hbt]; rfl), down_ n (by omega)]
    · have hcd := hc h45
      simp only [N.digU, Bool.and_eq_true, decide_eq_true_eq] at hcd
      have := ih (by omega) (acc ++ [(c.toNat : Int) - 48]) (by rw [List.length_append, List.length_singleton]; omega) hd'
      have hr : acc ++ revD (List.filter (fun x => decide (x ≠ 45)) (s.data.toList.take n) ++ List.filter (fun x => decide (x ≠ 45)) [c]) = (acc ++ [(c.toNat : Int) - 48]) ++ revD (List.filter (fun x => decide (x ≠ 45)) (s.data.toList.take n)) := by
        have hf : List.filter (fun x : UInt8 => decide (x ≠ 45)) [c] = [c] := List.filter_eq_self.2 (fun x hx => by rw [List.mem_singleton] at hx; subst hx; exact decide_eq_true h45)
        rw [hf]
        simp only [revD, List.reverse_append, List.reverse_cons, List.reverse_nil, List.nil_append, List.singleton_append, List.map_cons, List.append_assoc]
      rw [hr]
      refine Ev.step (fun k => ?_) this
      simp only [rostrumref09_of.l0]
      rw [if_pos (by omega), if_pos (by omega), if_pos (by omega), if_neg (by rw [hbt]; intro e2; exact h45 (UInt8.toNat_inj.1 (by have : (45 : UInt8).toNat = 45 := rfl; omega))), if_pos (by omega), down_ n (by omega), hbt]
      rw [show ((c.toNat : Int) - 48) % 256 = (c.toNat : Int) - 48 by omega]

theorem digits_filter {l : List UInt8} (h : N.canU l = true) : l.filter (· ≠ 45) = N.digits l ∧ ∀ c ∈ l, c ≠ 45 → N.digU c = true := by
  obtain ⟨h1, h2, h3, h4⟩ := N.can_open h
  have hd : ∀ c ∈ N.digits l, c ≠ 45 ∧ N.digU c = true := fun c hc => by
    have := List.all_eq_true.1 h3 c hc
    refine ⟨fun e => ?_, this⟩
    subst e
    exact absurd this (by decide)
  unfold N.digits at hd ⊢
  split at hd
  · rename_i hm
    rw [if_pos hm]
    cases l with
    | nil => simp at hm
    | cons c r =>
      simp only [List.head?_cons, Option.some.injEq] at hm
      subst hm
      simp only [List.tail_cons] at hd ⊢
      refine ⟨?_, fun c hc hne => ?_⟩
      · rw [List.filter_cons_of_neg (by simp)]
        exact List.filter_eq_self.2 fun c hc => by simpa using (hd c hc).1
      · rcases List.mem_cons.1 hc with rfl | hc
        · exact absurd rfl hne
        · exact (hd c hc).2
  · rename_i hm
    rw [if_neg hm]
    exact ⟨List.filter_eq_self.2 fun c hc => by simpa using (hd c hc).1, fun c hc _ => (hd c hc).2⟩
theorem can_len {l : List UInt8} (h : N.canU l = true) : 0 < l.length ∧ l.length ≤ 201 := by
  obtain ⟨h1, h2, h3, h4⟩ := N.can_open h
  unfold N.digits at h1 h2
  have h1' := List.length_pos_iff.2 h1
  split at h1' <;> rename_i hm
  · rw [if_pos hm] at h2
    cases l with
    | nil => simp at hm
    | cons c r => simp at h2 ⊢; omega
  · rw [if_neg hm] at h2
    omega
def negU (l : List UInt8) : Bool := l.head? == some 45
theorem of_ref (s : ByteArray) (h : N.canU s.data.toList = true) : Ev (fun k => rostrumref09_of.f k s) (revD (N.digits s.data.toList), negU s.data.toList) := by
  obtain ⟨hf, hd⟩ := digits_filter h
  obtain ⟨hp, hl⟩ := can_len h
  have hsz := size_u s
  have := of_l0 s (by omega) (negU s.data.toList) s.data.toList.length (Nat.le_refl _) [] (by simp; omega) (fun c hc => hd c (List.mem_of_mem_take hc))
  rw [List.take_length, hf, List.nil_append] at this
  refine Ev.congr (fun k => ?_) this
  simp only [rostrumref09_of.f]
  rw [if_pos (by omega), down_ _ (by omega), hsz]
  congr 1
  have := bt_u s 0 hp
  rw [show ((0 : Nat) : Int) = 0 from rfl] at this
  rw [this]
  simp only [negU, List.head?_eq_getElem?, List.getElem?_eq_getElem hp]
  generalize s.data.toList[0] = c
  rw [Bool.eq_iff_iff, beq_iff_eq, beq_iff_eq, Option.some.injEq]
  exact ⟨fun e => UInt8.toNat_inj.1 (by have : (45 : UInt8).toNat = 45 := rfl; omega), fun e => by rw [e]; rfl⟩

theorem cmpI_neg (x y : Int) : cmpI (-x) (-y) = cmpI y x := by
  unfold cmpI
  by_cases h1 : y < x
  · rw [if_pos (by omega), if_pos h1]
  · rw [if_neg (by omega), if_neg h1]
    by_cases h2 : y = x
    · rw [if_pos (by omega), if_pos h2]
    · rw [if_neg (by omega), if_neg h2]
/-! ### Compare -/
theorem val_neg {l : List UInt8} (h : N.canU l = true) : (negU l = true → N.valU l = -(N.dv (N.digits l) : Int) ∧ 0 < N.dv (N.digits l)) ∧ (negU l = false → N.valU l = (N.dv (N.digits l) : Int)) := by
  refine ⟨fun hn => ?_, fun hn => ?_⟩
  · have hm : l.head? = some 45 := by simpa [negU] using hn
    have hv : N.valU l = -(N.dv (N.digits l) : Int) := by unfold N.valU; rw [if_pos hm]
    refine ⟨hv, ?_⟩
    rcases Nat.eq_zero_or_pos (N.dv (N.digits l)) with e | e
    · have hi := N.itoa_val h
      rw [hv, e] at hi
      have : Lib.itoa (-((0 : Nat) : Int)) = [48] := by unfold Lib.itoa; rw [if_neg (by omega), Lib.decDigits]; rfl
      rw [this] at hi
      rw [← hi] at hm
      simp at hm
    · exact e
  · have hm : ¬ l.head? = some 45 := by simpa [negU] using hn
    unfold N.valU; rw [if_neg hm]
theorem compare_ref (a b : ByteArray) (ha : a.size ≤ 9223372036854775807) (hb : b.size ≤ 9223372036854775807) :
    Ev (fun k => rostrumref09_Compare.f k a b) (if N.canU a.data.toList = true ∧ N.canU b.data.toList = true then (cmpI (N.valU a.data.toList) (N.valU b.data.toList), 0) else (0, 90)) := by
  simp only [rostrumref09_Compare.f]
  refine Ev.bind (can_ref_u a ha) ?_
  cases hca : N.canU a.data.toList with
  | false =>
    rw [if_neg (by simp)]
    refine Ev.congr (fun k => if_neg (by simp)) ?_
    refine Ev.step (f := fun _ => some (0, 90)) (fun k => ?_) (Ev.now _)
    simp only [rostrumref09_Compare.j0]; rw [if_pos trivial]
  | true =>
    refine Ev.congr (fun k => if_pos rfl) ?_
    refine Ev.bind (can_ref_u b hb) ?_
    cases hcb : N.canU b.data.toList with
    | false =>
      rw [if_neg (by simp)]
      refine Ev.step (f := fun _ => some (0, 90)) (fun k => ?_) (Ev.now _)
      simp only [rostrumref09_Compare.j0]; rw [if_pos (by rfl)]
    | true =>
      rw [if_pos ⟨rfl, rfl⟩]
      obtain ⟨_, hda, hala, _⟩ := N.can_open hca
      obtain ⟨_, hdb, hallb, _⟩ := N.can_open hcb
      have la : (revD (N.digits a.data.toList)).length ≤ 1000000000 := by simp [revD]; omega
      have lb : (revD (N.digits b.data.toList)).length ≤ 1000000000 := by simp [revD]; omega
      obtain ⟨na, pa⟩ := val_neg hca
      obtain ⟨nb, pb⟩ := val_neg hcb
      have s1 := size_ref_ev _ _ 10 (by omega) (ok_revD _ hala) (ok_revD _ hallb) la lb
      have s2 := size_ref_ev _ _ 10 (by omega) (ok_revD _ hallb) (ok_revD _ hala) lb la
      rw [vB_revD _ hala, vB_revD _ hallb] at s1 s2
      refine Ev.step (f := fun k => (rostrumref09_of.f k a).bind fun bt151 => (rostrumref09_of.f k b).bind fun bt155 => if bt151.2 = true then rostrumref09_Compare.j1 k (!bt155.2) bt151.1 bt151.2 bt155.1 bt155.2 else rostrumref09_Compare.j1 k false bt151.1 bt151.2 bt155.1 bt155.2) (fun k => ?_) ?_
      · simp only [rostrumref09_Compare.j0]; rw [if_neg (by simp)]
      refine Ev.bind (of_ref a hca) ?_
      refine Ev.bind (of_ref b hcb) ?_
      cases hna : negU a.data.toList with
      | true =>
        refine Ev.congr (fun k => if_pos rfl) ?_
        obtain ⟨va, qa⟩ := na hna
        cases hnb : negU b.data.toList with
        | true =>
          obtain ⟨vb, qb⟩ := nb hnb
          have e : cmpI (N.valU a.data.toList) (N.valU b.data.toList) = cmpI (N.dv (N.digits b.data.toList) : Int) (N.dv (N.digits a.data.toList) : Int) := by
            rw [va, vb, cmpI_neg]
          rw [e]
          refine Ev.step (f := fun k => rostrumref09_Compare.j2 k false (revD (N.digits a.data.toList)) true (revD (N.digits b.data.toList)) true) (fun k => ?_) ?_
          · simp only [rostrumref09_Compare.j1]; rw [if_neg (by simp), if_pos trivial]
          refine Ev.step (f := fun k => (rostrumref09_size.f k (revD (N.digits b.data.toList)) (revD (N.digits a.data.toList))).bind fun t161 => some (t161, 0)) (fun k => ?_) (Ev.bind s2 (Ev.now _))
          simp only [rostrumref09_Compare.j2]; rw [if_neg (by simp), if_pos trivial]
        | false =>
          have vb := pb hnb
          have e : cmpI (N.valU a.data.toList) (N.valU b.data.toList) = -1 := by rw [va, vb]; unfold cmpI; rw [if_pos (by omega)]
          rw [e]
          refine Ev.step (f := fun _ => some (-1, 0)) (fun k => ?_) (Ev.now _)
          simp only [rostrumref09_Compare.j1]; rw [if_pos (by rfl)]
      | false =>
        refine Ev.congr (fun k => if_neg (by simp)) ?_
        have va := pa hna
        cases hnb : negU b.data.toList with
        | true =>
          obtain ⟨vb, qb⟩ := nb hnb
          have e : cmpI (N.valU a.data.toList) (N.valU b.data.toList) = 1 := by rw [va, vb]; unfold cmpI; rw [if_neg (by omega), if_neg (by omega)]
          rw [e]
          refine Ev.step (f := fun k => rostrumref09_Compare.j2 k true (revD (N.digits a.data.toList)) false (revD (N.digits b.data.toList)) true) (fun k => ?_) ?_
          · simp only [rostrumref09_Compare.j1]; rw [if_neg (by simp), if_neg (by simp)]
          refine Ev.step (f := fun _ => some (1, 0)) (fun k => ?_) (Ev.now _)
          simp only [rostrumref09_Compare.j2]; rw [if_pos trivial]
        | false =>
          have vb := pb hnb
          rw [va, vb]
          refine Ev.step (f := fun k => rostrumref09_Compare.j2 k false (revD (N.digits a.data.toList)) false (revD (N.digits b.data.toList)) false) (fun k => ?_) ?_
          · simp only [rostrumref09_Compare.j1]; rw [if_neg (by simp), if_neg (by simp)]
          refine Ev.step (f := fun k => (rostrumref09_size.f k (revD (N.digits a.data.toList)) (revD (N.digits b.data.toList))).bind fun t162 => some (t162, 0)) (fun k => ?_) (Ev.bind s1 (Ev.now _))
          simp only [rostrumref09_Compare.j2]; rw [if_neg (by simp), if_neg (by simp)]
end Go.Proofs.YtlnneellihkdkaaDoor.D
