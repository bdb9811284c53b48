/- Numerals: decimal texts and the whole numbers that they spell; plain. -/
import Derived.Lib.ItoaNum
import Derived.Lib.AtoiAll
namespace Go.Proofs.YtlnneellihkdkaaDoor.N
open Go.Lib
set_option linter.unusedVariables false

def digU (c : UInt8) : Bool := decide (48 ≤ c.toNat) && decide (c.toNat ≤ 57)
def dvF (acc : Nat) (l : List UInt8) : Nat := l.foldl (fun a c => a * 10 + (c.toNat - 48)) acc
def dv (l : List UInt8) : Nat := dvF 0 l
theorem dvF_snoc (acc : Nat) (l : List UInt8) (c : UInt8) : dvF acc (l ++ [c]) = dvF acc l * 10 + (c.toNat - 48) := by simp [dvF, List.foldl_append]
theorem dv_snoc (l : List UInt8) (c : UInt8) : dv (l ++ [c]) = dv l * 10 + (c.toNat - 48) := by unfold dv; exact dvF_snoc 0 l c
theorem dv_cons (c : UInt8) (l : List UInt8) : dv (c :: l) = dvF (c.toNat - 48) l := by simp only [dv, dvF, List.foldl_cons, Nat.zero_mul, Nat.zero_add]
theorem head_app {l m : List UInt8} (h : l ≠ []) : (l ++ m).head? = l.head? := by
  cases l with
  | nil => exact absurd rfl h
  | cons _ _ => rfl
theorem dvF_cons (acc : Nat) (c : UInt8) (l : List UInt8) : dvF acc (c :: l) = dvF (acc * 10 + (c.toNat - 48)) l := by simp only [dvF, List.foldl_cons]
theorem dvF_ge (l : List UInt8) : ∀ acc, acc ≤ dvF acc l := by
  induction l with
  | nil => intro acc; exact Nat.le_refl _
  | cons c l ih => intro acc; rw [dvF_cons]; exact Nat.le_trans (by omega) (ih _)
theorem dvF_eq (l : List UInt8) : ∀ acc, dvF acc l = acc * 10 ^ l.length + dv l := by
  induction l with
  | nil => intro acc; simp [dvF, dv]
  | cons c l ih =>
    intro acc
    rw [dvF_cons, ih, dv_cons, ih (c.toNat - 48)]
    simp only [List.length_cons, Nat.pow_succ, Nat.add_mul]
    rw [Nat.mul_assoc, Nat.mul_comm 10, Nat.add_assoc]
theorem dv_lt (l : List UInt8) (h : l.all digU = true) : dv l < 10 ^ l.length := by
  induction l with
  | nil => simp [dv, dvF]
  | cons c l ih =>
    simp only [List.all_cons, Bool.and_eq_true, digU, decide_eq_true_eq] at h
    have := ih h.2
    rw [dv_cons, dvF_eq, List.length_cons, Nat.pow_succ]
    have h1 : c.toNat - 48 ≤ 9 := by omega
    have h2 : (c.toNat - 48) * 10 ^ l.length ≤ 9 * 10 ^ l.length := Nat.mul_le_mul_right _ (by omega)
    omega

/-! ### decDigits -/
theorem u8_of {n : Nat} (h : n < 10) : (UInt8.ofNat (48 + n)).toNat = 48 + n := by
  rw [UInt8.toNat_ofNat']; omega
theorem dec_all (u : Nat) : (decDigits u).all digU = true := by
  induction u using Nat.strongRecOn with
  | _ u ih =>
    rw [decDigits]
    split
    · rename_i h
      simp only [List.all_cons, List.all_nil, digU, u8_of h, Bool.and_true, Bool.and_eq_true, decide_eq_true_eq]
      omega
    · rename_i h
      rw [List.all_append, ih (u / 10) (by omega)]
      simp only [List.all_cons, List.all_nil, digU, u8_of (show u % 10 < 10 by omega), Bool.and_true, Bool.true_and, Bool.and_eq_true, decide_eq_true_eq]
      omega
theorem dv_dec (u : Nat) : dv (decDigits u) = u := by
  induction u using Nat.strongRecOn with
  | _ u ih =>
    rw [decDigits]
    split
    · rename_i h
      show 0 * 10 + ((UInt8.ofNat (48 + u)).toNat - 48) = u
      rw [u8_of h]; omega
    · rename_i h
      rw [dv_snoc, ih (u / 10) (by omega), u8_of (show u % 10 < 10 by omega)]
      omega
theorem dec_ne (u : Nat) : decDigits u ≠ [] := by
  rw [decDigits]; split <;> simp
theorem dec_head (u : Nat) : (decDigits u).head? = some 48 → u = 0 := by
  induction u using Nat.strongRecOn with
  | _ u ih =>
    rw [decDigits]
    split
    · rename_i h
      intro e
      have e2 : UInt8.ofNat (48 + u) = 48 := by simpa using e
      have := congrArg UInt8.toNat e2
      rw [u8_of h] at this
      have h48 : (48 : UInt8).toNat = 48 := rfl
      omega
    · rename_i h
      intro e
      rw [head_app (dec_ne _)] at e
      have := ih (u / 10) (by omega) e
      omega
theorem dec_len (u k : Nat) (hk : 0 < k) (h : u < 10 ^ k) : (decDigits u).length ≤ k := by
  induction u using Nat.strongRecOn generalizing k with
  | _ u ih =>
    rw [decDigits]
    split
    · simp; omega
    · rename_i h10
      obtain ⟨k, rfl⟩ : ∃ j, k = j + 1 := ⟨k - 1, by omega⟩
      rw [Nat.pow_succ] at h
      have hk2 : 0 < k := by
        rcases Nat.eq_zero_or_pos k with e | e
        · subst e; simp at h; omega
        · exact e
      have := ih (u / 10) (by omega) k hk2 (by omega)
      simp; omega
/-- Digits without a nought ahead are the numeral of what they spell. -/
theorem dec_dv (n : Nat) : ∀ d : List UInt8, d.length = n → d ≠ [] → d.all digU = true → (d.head? = some 48 → d.length = 1) → decDigits (dv d) = d := by
  induction n with
  | zero => intro d hl hne; exact absurd (List.length_eq_zero_iff.1 hl) hne
  | succ n ih =>
    intro d hl hne ha hh
    obtain ⟨e, c, rfl⟩ : ∃ e c, d = e ++ [c] := ⟨d.dropLast, d.getLast hne, (List.dropLast_concat_getLast hne).symm⟩
    rw [List.all_append, Bool.and_eq_true] at ha
    have hc : 48 ≤ c.toNat ∧ c.toNat ≤ 57 := by
      have := ha.2
      simpa [digU] using this
    rw [dv_snoc]
    by_cases he : e = []
    · subst he
      have : dv [] = 0 := rfl
      rw [this, decDigits, dif_pos (by omega)]
      simp only [List.nil_append, List.cons.injEq, and_true]
      have : UInt8.ofNat (48 + (0 * 10 + (c.toNat - 48))) = UInt8.ofNat c.toNat := by congr 1; omega
      rw [this]; simp
    · have hh' : e.head? ≠ some 48 := by
        intro h
        have h1 := hh (by rw [head_app he]; exact h)
        have h2 : 0 < e.length := List.length_pos_iff.2 he
        rw [List.length_append, List.length_singleton] at h1
        omega
      have hpos : 0 < dv e := by
        cases e with
        | nil => exact absurd rfl he
        | cons b e =>
          have hb : 48 ≤ b.toNat ∧ b.toNat ≤ 57 := by
            have := ha.1
            simp only [List.all_cons, Bool.and_eq_true] at this
            simpa [digU] using this.1
          have hb2 : b.toNat ≠ 48 := fun e48 => hh' (by
            simp only [List.head?_cons, Option.some.injEq]
            exact UInt8.toNat_inj.1 e48)
          rw [dv_cons]
          exact Nat.lt_of_lt_of_le (by omega) (dvF_ge e _)
      rw [decDigits, dif_neg (by omega), show (dv e * 10 + (c.toNat - 48)) / 10 = dv e by omega, show (dv e * 10 + (c.toNat - 48)) % 10 = c.toNat - 48 by omega,
        ih e (by simp at hl; omega) he ha.1 (fun h => absurd h hh')]
      congr 1
      have : UInt8.ofNat (48 + (c.toNat - 48)) = UInt8.ofNat c.toNat := by congr 1; omega
      rw [this]; simp

/-! ### which texts are numbers -/
def digits (l : List UInt8) : List UInt8 := if l.head? = some 45 then l.tail else l
def canU (l : List UInt8) : Bool :=
  !(digits l).isEmpty && decide ((digits l).length ≤ 200) && !((digits l).head? == some 48 && (decide (1 < (digits l).length) || l.head? == some 45)) && (digits l).all digU
/-- The whole number that a text spells. -/
def valU (l : List UInt8) : Int := if l.head? = some 45 then -(dv (digits l) : Int) else (dv (digits l) : Int)

theorem can_open {l : List UInt8} (h : canU l = true) : digits l ≠ [] ∧ (digits l).length ≤ 200 ∧ (digits l).all digU = true ∧ ((digits l).head? = some 48 → (digits l).length = 1 ∧ l.head? ≠ some 45) := by
  simp only [canU, Bool.and_eq_true, Bool.not_eq_true', decide_eq_true_eq, Bool.and_eq_false_iff, Bool.or_eq_false_iff, decide_eq_false_iff_not, beq_eq_false_iff_ne] at h
  obtain ⟨⟨⟨h1, h2⟩, h3⟩, h4⟩ := h
  have hne : digits l ≠ [] := by intro e; rw [e] at h1; simp at h1
  refine ⟨hne, h2, h4, fun h48 => ?_⟩
  rcases h3 with h | ⟨ha, hb⟩
  · exact absurd h48 h
  · have : 0 < (digits l).length := List.length_pos_iff.2 hne
    exact ⟨by omega, hb⟩
/-- A number's text is the numeral of its value. -/
theorem itoa_val {l : List UInt8} (h : canU l = true) : itoa (valU l) = l := by
  obtain ⟨h1, h2, h3, h4⟩ := can_open h
  have hd := dec_dv _ (digits l) rfl h1 h3 (fun e => (h4 e).1)
  unfold valU
  split
  · rename_i hm
    have hpos : 0 < dv (digits l) := by
      rcases Nat.eq_zero_or_pos (dv (digits l)) with e | e
      · rw [e] at hd
        have e0 : decDigits 0 = [48] := by rw [decDigits]; rfl
        rw [e0] at hd
        exact absurd hm (h4 (by rw [← hd]; rfl)).2
      · exact e
    unfold itoa
    rw [if_pos (by omega), show (-(dv (digits l) : Int)).natAbs = dv (digits l) by omega, hd]
    unfold digits
    rw [if_pos hm]
    cases l with
    | nil => simp at hm
    | cons c r => simp at hm; simp [hm]
  · rename_i hm
    unfold itoa
    rw [if_neg (by omega), show ((dv (digits l) : Int)).toNat = dv (digits l) by omega, hd]
    unfold digits
    rw [if_neg hm]
theorem dec_not_minus (u : Nat) : (decDigits u).head? ≠ some 45 := by
  intro e
  have h1 := dec_all u
  cases hd : decDigits u with
  | nil => exact dec_ne u hd
  | cons c r =>
    rw [hd] at e h1
    simp only [List.head?_cons, Option.some.injEq] at e
    subst e
    simp [digU] at h1
theorem can_itoa (z : Int) (h : z.natAbs < 10 ^ 200) : canU (itoa z) = true ∧ valU (itoa z) = z := by
  unfold itoa
  split
  · rename_i hz
    have hd : digits (45 :: decDigits z.natAbs) = decDigits z.natAbs := by simp [digits]
    refine ⟨?_, ?_⟩
    · simp only [canU, hd, dec_all, Bool.and_true, Bool.and_eq_true, Bool.not_eq_true', decide_eq_true_eq, Bool.and_eq_false_iff, beq_eq_false_iff_ne]
      refine ⟨⟨?_, dec_len _ _ (by omega) h⟩, .inl (fun e => by have := dec_head _ e; omega)⟩
      cases hd : decDigits z.natAbs with
      | nil => exact absurd hd (dec_ne _)
      | cons _ _ => rfl
    · unfold valU
      rw [if_pos (by simp), hd, dv_dec]; omega
  · rename_i hz
    have hd : digits (decDigits z.toNat) = decDigits z.toNat := by simp [digits, dec_not_minus]
    refine ⟨?_, ?_⟩
    · simp only [canU, hd, dec_all, Bool.and_true, Bool.and_eq_true, Bool.not_eq_true', decide_eq_true_eq, Bool.and_eq_false_iff, Bool.or_eq_false_iff, decide_eq_false_iff_not, beq_eq_false_iff_ne]
      refine ⟨⟨?_, dec_len _ _ (by omega) (by omega)⟩, ?_⟩
      · cases hd : decDigits z.toNat with
        | nil => exact absurd hd (dec_ne _)
        | cons _ _ => rfl
      · by_cases e : (decDigits z.toNat).head? = some 48
        · refine .inr ⟨?_, dec_not_minus _⟩
          have e0 := dec_head _ e
          rw [e0, decDigits]; simp
        · exact .inl e
    · unfold valU
      rw [if_neg (dec_not_minus _), hd, dv_dec]; omega
theorem val_abs {l : List UInt8} (h : canU l = true) : (valU l).natAbs < 10 ^ 200 := by
  obtain ⟨h1, h2, h3, h4⟩ := can_open h
  have := dv_lt _ h3
  have : (10 : Nat) ^ (digits l).length ≤ 10 ^ 200 := Nat.pow_le_pow_right (by omega) h2
  unfold valU
  split <;> omega

/-! ### Atoi -/
theorem parse_digits (d : List UInt8) (h : d.all digU = true) : ∀ acc, acc < 18446744073709551616 → parseUint10 acc d = if dvF acc d < 18446744073709551616 then .ok (dvF acc d) else .range := by
  induction d with
  | nil => intro acc ha; simp [parseUint10, dvF, ha]
  | cons c d ih =>
    intro acc ha
    simp only [List.all_cons, Bool.and_eq_true, digU, decide_eq_true_eq] at h
    simp only [parseUint10]
    rw [if_pos h.1, dvF_cons]
    have hge := dvF_ge d (acc * 10 + (c.toNat - 48))
    split
    · rw [if_neg (by omega)]
    · split
      · rw [if_neg (by omega)]
      · exact ih h.2 _ (by omega)
def inInt (z : Int) : Bool := decide (-9223372036854775808 ≤ z) && decide (z ≤ 9223372036854775807)
theorem atoi_can {l : List UInt8} (h : canU l = true) : atoiAll l = if inInt (valU l) = true then .ok (valU l) else .range := by
  obtain ⟨h1, h2, h3, h4⟩ := can_open h
  have hp := parse_digits (digits l) h3 0 (by omega)
  have hm : parseMag (digits l) = parseUint10 0 (digits l) := by unfold parseMag; rw [if_neg h1]
  cases l with
  | nil => simp [digits] at h1
  | cons c r =>
    have e43 : c.toNat ≠ 43 := by
      intro e
      have hd : digits (c :: r) = c :: r := by
        unfold digits; rw [if_neg]
        intro e2
        simp only [List.head?_cons, Option.some.injEq] at e2
        rw [e2] at e; exact absurd e (by decide)
      rw [hd] at h3
      simp only [List.all_cons, Bool.and_eq_true, digU, decide_eq_true_eq] at h3
      omega
    have hdig : (if c.toNat = 43 ∨ c.toNat = 45 then r else c :: r) = digits (c :: r) := by
      unfold digits
      by_cases e : c.toNat = 45
      · have ec : c = 45 := UInt8.toNat_inj.1 e
        subst ec
        simp
      · have ec : c ≠ 45 := fun e2 => e (by rw [e2]; rfl)
        rw [if_neg (by omega), if_neg (by simpa using ec)]
    simp only [atoiAll, hdig, hm, hp]
    have hv : valU (c :: r) = if c.toNat = 45 then -(dvF 0 (digits (c :: r)) : Int) else (dvF 0 (digits (c :: r)) : Int) := by
      unfold valU dv
      by_cases e : c.toNat = 45
      · have ec : c = 45 := UInt8.toNat_inj.1 e
        rw [if_pos e, if_pos (by simp [ec])]
      · have ec : c ≠ 45 := fun e2 => e (by rw [e2]; rfl)
        rw [if_neg e, if_neg (by simpa using ec)]
    rw [hv]
    generalize dvF 0 (digits (c :: r)) = v
    by_cases hlt : v < 18446744073709551616
    · rw [if_pos hlt]
      by_cases e : c.toNat = 45
      · simp only [e, not_true_eq_false, false_and, if_false, true_and, if_true, inInt]
        by_cases hr : 9223372036854775808 < v
        · rw [if_pos hr, if_neg (by simp; omega)]
        · rw [if_neg hr, if_pos (by simp; omega)]
      · simp only [e, not_false_eq_true, true_and, false_and, if_false, inInt]
        by_cases hr : 9223372036854775808 ≤ v
        · rw [if_pos hr, if_neg (by simp; omega)]
        · rw [if_neg hr, if_pos (by simp; omega)]
    · rw [if_neg hlt]
      by_cases e : c.toNat = 45
      · simp only [e, if_true, inInt]
        rw [if_neg (by simp; omega)]
      · simp only [e, if_false, inInt]
        rw [if_neg (by simp; omega)]
end Go.Proofs.YtlnneellihkdkaaDoor.N
