/- Sums and differences of lists of digits: the program's (in base 1000000000) and the reference's (in base 10). number.times: the product of two rows of limbs. The program's limbs of a text, trimmed; plain. -/
import Derived.Test.YtlnneellihkdkaaDoorDx15
import Derived.Test.YtlnneellihkdkaaDoorDx17
import Derived.Test.YtlnneellihkdkaaDoorDx20
import Derived.Test.YtlnneellihkdkaaDoorHRefA
namespace Go.Proofs.YtlnneellihkdkaaDoor.D
open Go.RowKit Go.Proofs.YtlnneellihkdkaaDoorW.PrintWords Go.Proofs.YtlnneellihkdkaaDoorW.PrintLast Go.Proofs.YtlnneellihkdkaaDoorW.PrintMore
set_option linter.unusedVariables false
set_option linter.unusedSimpArgs false

theorem vB_drop (B : Int) (l : List Int) (i : Nat) : vB B (l.drop i) = l.getD i 0 + B * vB B (l.drop (i + 1)) := by
  by_cases h : i < l.length
  · rw [List.drop_eq_getElem_cons h, vB]
    simp [List.getD_eq_getElem?_getD, List.getElem?_eq_getElem h]
  · rw [List.drop_eq_nil_of_le (by omega), List.drop_eq_nil_of_le (by omega), List.getD_eq_getElem?_getD, List.getElem?_eq_none (by omega)]
    simp [vB]
theorem getD_over (l : List Int) (i : Nat) (h : l.length ≤ i) : l.getD i 0 = 0 := by
  rw [List.getD_eq_getElem?_getD, List.getElem?_eq_none h]; rfl

/-! ### sums -/
def plusS (B : Int) (a b : List Int) : Nat → Nat → Int → List Int
  | 0, _, _ => []
  | n + 1, i, c => (a.getD i 0 + b.getD i 0 + c) % B :: plusS B a b n (i + 1) ((a.getD i 0 + b.getD i 0 + c) / B)
theorem plusS_len (B : Int) (a b : List Int) (n : Nat) : ∀ i c, (plusS B a b n i c).length = n := by
  induction n with
  | zero => intro i c; rfl
  | succ n ih => intro i c; simp [plusS, ih]
theorem plusS_ok (B : Int) (hB : 2 ≤ B) (a b : List Int) (n : Nat) : ∀ i c, OkB B (plusS B a b n i c) := by
  induction n with
  | zero => intro i c x hx; simp [plusS] at hx
  | succ n ih =>
    intro i c x hx
    simp only [plusS, List.mem_cons] at hx
    rcases hx with rfl | hx
    · exact ⟨Int.emod_nonneg _ (by omega), Int.emod_lt_of_pos _ (by omega)⟩
    · exact ih _ _ x hx
theorem carry_small (B x y c : Int) (hB : 2 ≤ B) (hx : 0 ≤ x ∧ x < B) (hy : 0 ≤ y ∧ y < B) (hc : 0 ≤ c ∧ c ≤ 1) : 0 ≤ (x + y + c) / B ∧ (x + y + c) / B ≤ 1 := by
  refine ⟨Int.ediv_nonneg (by omega) (by omega), ?_⟩
  have : (x + y + c) / B < 2 := Int.ediv_lt_of_lt_mul (by omega) (by omega)
  omega
theorem plusS_val (B : Int) (hB : 2 ≤ B) (a b : List Int) (ha : OkB B a) (hb : OkB B b) (n : Nat) : ∀ (i : Nat) (c : Int), 0 ≤ c ∧ c ≤ 1 → a.length + 1 ≤ i + n → b.length + 1 ≤ i + n → (n = 0 → c = 0) →
    vB B (plusS B a b n i c) = c + vB B (a.drop i) + vB B (b.drop i) := by
  induction n with
  | zero =>
    intro i c hc h1 h2 h0
    rw [List.drop_eq_nil_of_le (by omega), List.drop_eq_nil_of_le (by omega), h0 rfl]
    simp [plusS, vB]
  | succ n ih =>
    intro i c hc h1 h2 h0
    have hx := getD_ok (by omega : 1 ≤ B) ha i
    have hy := getD_ok (by omega : 1 ≤ B) hb i
    have hcs := carry_small B _ _ c hB hx hy hc
    rw [plusS, vB, ih (i + 1) _ hcs (by omega) (by omega) (fun hn => by
      subst hn
      rw [getD_over a i (by omega), getD_over b i (by omega)]
      exact Int.ediv_eq_zero_of_lt (by omega) (by omega)), vB_drop B a i, vB_drop B b i]
    generalize a.getD i 0 = x at *
    generalize b.getD i 0 = y at *
    have := Int.emod_add_mul_ediv (x + y + c) B
    rw [Int.mul_add, Int.mul_add]
    omega

/-! ### differences -/
def minusS (B : Int) (a b : List Int) : Nat → Nat → Int → List Int
  | 0, _, _ => []
  | n + 1, i, h => if a.getD i 0 - b.getD i 0 - h < 0 then (a.getD i 0 - b.getD i 0 - h + B) :: minusS B a b n (i + 1) 1 else (a.getD i 0 - b.getD i 0 - h) :: minusS B a b n (i + 1) 0
theorem minusS_len (B : Int) (a b : List Int) (n : Nat) : ∀ i c, (minusS B a b n i c).length = n := by
  induction n with
  | zero => intro i c; rfl
  | succ n ih => intro i c; simp only [minusS]; split <;> simp [ih]
theorem minusS_ok (B : Int) (hB : 2 ≤ B) (a b : List Int) (ha : OkB B a) (hb : OkB B b) (n : Nat) : ∀ i c, 0 ≤ c ∧ c ≤ 1 → OkB B (minusS B a b n i c) := by
  induction n with
  | zero => intro i c _ x hx; simp [minusS] at hx
  | succ n ih =>
    intro i c hc x hx
    have hx1 := getD_ok (by omega : 1 ≤ B) ha i
    have hy1 := getD_ok (by omega : 1 ≤ B) hb i
    simp only [minusS] at hx
    split at hx
    · rcases List.mem_cons.1 hx with rfl | hx
      · omega
      · exact ih _ _ (by omega) x hx
    · rcases List.mem_cons.1 hx with rfl | hx
      · omega
      · exact ih _ _ (by omega) x hx
theorem minusS_val (B : Int) (hB : 2 ≤ B) (a b : List Int) (ha : OkB B a) (hb : OkB B b) (n : Nat) : ∀ (i : Nat) (h : Int), 0 ≤ h ∧ h ≤ 1 →
    ∃ e : Int, 0 ≤ e ∧ e ≤ 1 ∧ vB B (minusS B a b n i h) = vB B ((a.drop i).take n) - vB B ((b.drop i).take n) - h + B ^ n * e := by
  induction n with
  | zero => intro i h hh; exact ⟨h, hh.1, hh.2, by simp [minusS, vB]; omega⟩
  | succ n ih =>
    intro i h hh
    have tk : ∀ l : List Int, vB B ((l.drop i).take (n + 1)) = l.getD i 0 + B * vB B ((l.drop (i + 1)).take n) := by
      intro l
      by_cases hl : i < l.length
      · rw [List.drop_eq_getElem_cons hl, List.take_succ_cons, vB]
        simp [List.getD_eq_getElem?_getD, List.getElem?_eq_getElem hl]
      · rw [List.drop_eq_nil_of_le (by omega), List.drop_eq_nil_of_le (by omega), getD_over l i (by omega)]
        simp [vB]
    rw [tk a, tk b, Int.pow_succ]
    simp only [minusS]
    generalize a.getD i 0 = x
    generalize b.getD i 0 = y
    split
    · obtain ⟨e, h1, h2, h3⟩ := ih (i + 1) 1 (by omega)
      refine ⟨e, h1, h2, ?_⟩
      rw [vB, h3, Int.mul_add, Int.mul_sub, Int.mul_sub, Int.mul_one, Int.mul_comm (B ^ n) B, Int.mul_assoc]
      omega
    · obtain ⟨e, h1, h2, h3⟩ := ih (i + 1) 0 (by omega)
      refine ⟨e, h1, h2, ?_⟩
      rw [vB, h3, Int.mul_add, Int.mul_sub, Int.mul_sub, Int.mul_zero, Int.mul_comm (B ^ n) B, Int.mul_assoc]
      omega
theorem vB_split (B : Int) (l : List Int) (n : Nat) (h : n ≤ l.length) : vB B l = vB B (l.take n) + B ^ n * vB B (l.drop n) := by
  have := vB_append B (l.take n) (l.drop n)
  rw [List.take_append_drop, List.length_take, Nat.min_eq_left h] at this
  exact this
/-- A greater one less another one, over as many places as the greater one has, or more. -/
theorem minus_val (B : Int) (hB : 2 ≤ B) (a b : List Int) (ha : OkB B a) (hb : OkB B b) (n : Nat) (hn : a.length ≤ n) (hle : vB B b ≤ vB B a) : vB B (minusS B a b n 0 0) = vB B a - vB B b := by
  obtain ⟨e, h1, h2, h3⟩ := minusS_val B hB a b ha hb n 0 0 (by omega)
  rw [List.drop_zero, List.drop_zero, List.take_of_length_le hn] at h3
  have hob := minusS_ok B hB a b ha hb n 0 0 (by omega)
  have hbd := vB_bounds B (by omega) _ hob
  rw [minusS_len] at hbd
  have hbt : vB B (b.take n) = vB B b := by
    by_cases hb2 : n ≤ b.length
    · have hs := vB_split B b n hb2
      have hd := vB_bounds B (by omega) (b.drop n) (fun x hx => hb x (List.mem_of_mem_drop hx))
      have ht := vB_bounds B (by omega) (b.take n) (OkB_take hb n)
      have hba := vB_bounds B (by omega) a ha
      have hp := pow_mono B (by omega) hn
      have hp1 := pow_ge1 B (by omega) n
      have : vB B (b.drop n) = 0 := by
        by_cases hpos : 0 < vB B (b.drop n)
        · have : B ^ n * 1 ≤ B ^ n * vB B (b.drop n) := Int.mul_le_mul_of_nonneg_left (by omega) (by omega)
          omega
        · omega
      rw [this, Int.mul_zero] at hs
      omega
    · rw [List.take_of_length_le (by omega)]
  rw [hbt] at h3
  have he : e = 0 := by
    by_cases hpos : 0 < e
    · have : e = 1 := by omega
      rw [this, Int.mul_one] at h3
      omega
    · omega
  rw [he] at h3
  omega

/-! ### the program's -/
abbrev G : Int := 1000000000
theorem limb_nat (l : List Int) (n : Nat) : number_limb.f l (n : Int) = some (l.getD n 0) := by
  unfold number_limb.f
  by_cases h : n < l.length
  · rw [if_pos (by omega), if_pos (by omega)]
    simp [rd]
  · rw [if_neg (by omega), List.getD_eq_getElem?_getD, List.getElem?_eq_none (by omega)]; rfl
theorem size_l0_prog (a b : List Int) (B : Int) (hB : 1 ≤ B) (ha : OkB B a) (hb : OkB B b) : ∀ n : Nat, n ≤ 9223372036854775807 → Ev (fun k => number_size.l0 k a b ((n : Int) - 1)) (cmpI (vB B (a.take n)) (vB B (b.take n))) := by
  intro n
  induction n with
  | zero =>
    intro _
    refine Ev.step (f := fun _ => some (0 : Int)) (fun k => ?_) (by simpa [vB, cmpI] using Ev.now (0 : Int))
    simp only [number_size.l0]
    rw [if_neg (by omega)]
  | succ n ih =>
    intro hn
    rw [cmp_step B hB a b ha hb n]
    have e : ((n + 1 : Nat) : Int) - 1 = (n : Int) := by omega
    rw [e]
    by_cases hx : a.getD n 0 = b.getD n 0
    · rw [if_pos hx]
      refine Ev.step (fun k => ?_) (ih (by omega))
      simp only [number_size.l0]
      rw [if_pos (by omega)]
      simp only [limb_nat, Option.bind_some]
      rw [if_pos hx, down_ n (by omega)]
    · rw [if_neg hx]
      refine Ev.step (f := fun _ => some (if a.getD n 0 < b.getD n 0 then (-1 : Int) else 1)) (fun k => ?_) (Ev.now _)
      simp only [number_size.l0]
      rw [if_pos (by omega)]
      simp only [limb_nat, Option.bind_some]
      rw [if_neg hx]
      split <;> rfl
theorem size_prog_ev (a b : List Int) (ha : OkB G a) (hb : OkB G b) (hla : a.length ≤ 1000000000) (hlb : b.length ≤ 1000000000) : Ev (fun k => number_size.f k a b) (cmpI (vB G a) (vB G b)) := by
  have := size_l0_prog a b G (by decide) ha hb (max a.length b.length) (by omega)
  rw [List.take_of_length_le (by omega), List.take_of_length_le (by omega)] at this
  refine Ev.congr (fun k => ?_) this
  simp only [number_size.f]
  rw [mx_nat, down_ _ (by omega)]

theorem u64_id {x : Int} (h0 : 0 ≤ x) (h1 : x < 18446744073709551616) : IntKind.u64.wrap x = x := by
  show x % 18446744073709551616 = x
  omega
theorem plus_l0 (a b : List Int) (ha : OkB G a) (hb : OkB G b) (N : Nat) (hN : N ≤ 1000000000) (d : Nat) : ∀ i : Nat, N - i = d → i ≤ N → ∀ (acc : List Int) (c : Int), acc.length = i → 0 ≤ c ∧ c ≤ 1 →
    Ev (fun k => number_plus.l0 k a b acc c (N : Int) i) (acc ++ plusS G a b d i c) := by
  induction d with
  | zero =>
    intro i hd hi acc c hl hc
    refine Ev.step (f := fun _ => some acc) (fun k => ?_) (by simpa [plusS] using Ev.now acc)
    simp only [number_plus.l0]
    rw [if_neg (by omega)]
  | succ d ih =>
    intro i hd hi acc c hl hc
    have hx := getD_ok (by decide : 1 ≤ G) ha i
    have hy := getD_ok (by decide : 1 ≤ G) hb i
    have hcs := carry_small G _ _ c (by decide) hx hy hc
    have hG : G = 1000000000 := rfl
    have h1 : IntKind.u64.wrap (IntKind.u64.wrap (a.getD i 0 + b.getD i 0) + c) = a.getD i 0 + b.getD i 0 + c := by
      rw [u64_id (x := a.getD i 0 + b.getD i 0) (by omega) (by omega), u64_id (x := a.getD i 0 + b.getD i 0 + c) (by omega) (by omega)]
    have := ih (i + 1) (by omega) (by omega) (acc ++ [(a.getD i 0 + b.getD i 0 + c) % G]) ((a.getD i 0 + b.getD i 0 + c) / G) (by simp [hl]) hcs
    rw [List.append_assoc, List.singleton_append] at this
    refine Ev.step (fun k => ?_) (show Ev _ (acc ++ plusS G a b (d + 1) i c) from this)
    simp only [number_plus.l0]
    rw [if_pos (by omega)]
    simp only [limb_nat, Option.bind_some]
    rw [if_pos (by omega), h1, show wrap64 ((i : Int) + 1) = ((i + 1 : Nat) : Int) from by unfold wrap64; omega]
    have t1 : Int.tmod (a.getD i 0 + b.getD i 0 + c) 1000000000 = (a.getD i 0 + b.getD i 0 + c) % G := Int.tmod_eq_emod_of_nonneg (by omega)
    have t2 : Int.tdiv (a.getD i 0 + b.getD i 0 + c) 1000000000 = (a.getD i 0 + b.getD i 0 + c) / G := Int.tdiv_eq_ediv_of_nonneg (by omega)
    rw [t1, t2, u64_id hcs.1 (by omega)]
theorem plus_prog_ev (a b : List Int) (ha : OkB G a) (hb : OkB G b) (hla : a.length ≤ 100000000) (hlb : b.length ≤ 100000000) : Ev (fun k => number_plus.f k a b) (plusS G a b (max a.length b.length + 1) 0 0) := by
  have := plus_l0 a b ha hb (max a.length b.length + 1) (by omega) _ 0 rfl (Nat.zero_le _) [] 0 rfl (by omega)
  rw [List.nil_append] at this
  refine Ev.congr (fun k => ?_) this
  simp only [number_plus.f]
  rw [mx_nat, show wrap64 (((max a.length b.length : Nat) : Int) + 1) = ((max a.length b.length + 1 : Nat) : Int) from by unfold wrap64; omega]
  rfl
theorem minus_l0 (a b : List Int) (ha : OkB G a) (hb : OkB G b) (hla : a.length ≤ 1000000000) (d : Nat) : ∀ i : Nat, a.length - i = d → i ≤ a.length → ∀ (acc : List Int) (h : Int), acc.length = i → 0 ≤ h ∧ h ≤ 1 →
    Ev (fun k => number_minus.l0 k a b acc h (a.length : Int) i) (acc ++ minusS G a b d i h) := by
  induction d with
  | zero =>
    intro i hd hi acc c hl hc
    refine Ev.step (f := fun _ => some acc) (fun k => ?_) (by simpa [minusS] using Ev.now acc)
    simp only [number_minus.l0]
    rw [if_neg (by omega)]
  | succ d ih =>
    intro i hd hi acc h hl hh
    have hx := getD_ok (by decide : 1 ≤ G) ha i
    have hy := getD_ok (by decide : 1 ≤ G) hb i
    have hG : G = 1000000000 := rfl
    have hrd : rd a (i : Int) = a.getD i 0 := by simp [rd]
    have hw : IntKind.u64.wrap (IntKind.u64.wrap (IntKind.u64.wrap (a.getD i 0 + 1000000000) - b.getD i 0) - h) = a.getD i 0 + 1000000000 - b.getD i 0 - h := by
      rw [u64_id (x := a.getD i 0 + 1000000000) (by omega) (by omega), u64_id (x := a.getD i 0 + 1000000000 - b.getD i 0) (by omega) (by omega), u64_id (x := a.getD i 0 + 1000000000 - b.getD i 0 - h) (by omega) (by omega)]
    have go : ∀ (dg h' : Int), (a.getD i 0 + 1000000000 - b.getD i 0 - h) % 1000000000 = dg → 1 - (a.getD i 0 + 1000000000 - b.getD i 0 - h) / 1000000000 = h' → 0 ≤ h' ∧ h' ≤ 1 → Ev (fun k => number_minus.l0 k a b acc h (a.length : Int) i) (acc ++ dg :: minusS G a b d (i + 1) h') := by
      intro dg h' e1 e2 hh'
      have := ih (i + 1) (by omega) (by omega) (acc ++ [dg]) h' (by simp [hl]) hh'
      rw [List.append_assoc, List.singleton_append] at this
      refine Ev.step (fun k => ?_) this
      simp only [number_minus.l0]
      rw [if_pos (by omega), if_pos (by omega), if_pos (by omega)]
      simp only [limb_nat, Option.bind_some]
      rw [if_pos (by omega), hrd, hw, show wrap64 ((i : Int) + 1) = ((i + 1 : Nat) : Int) from by unfold wrap64; omega]
      have t1 : Int.tmod (a.getD i 0 + 1000000000 - b.getD i 0 - h) 1000000000 = dg := by rw [← e1]; exact Int.tmod_eq_emod_of_nonneg (by omega)
      have t2 : Int.tdiv (a.getD i 0 + 1000000000 - b.getD i 0 - h) 1000000000 = (a.getD i 0 + 1000000000 - b.getD i 0 - h) / 1000000000 := Int.tdiv_eq_ediv_of_nonneg (by omega)
      have hq : 0 ≤ (a.getD i 0 + 1000000000 - b.getD i 0 - h) / 1000000000 ∧ (a.getD i 0 + 1000000000 - b.getD i 0 - h) / 1000000000 ≤ 1 := by omega
      rw [t1, t2, u64_id hq.1 (by omega), e2, u64_id hh'.1 (by omega)]
    simp only [minusS]
    split
    · rename_i hneg
      exact go (a.getD i 0 - b.getD i 0 - h + G) 1 (by rw [hG]; omega) (by omega) (by omega)
    · rename_i hneg
      exact go (a.getD i 0 - b.getD i 0 - h) 0 (by omega) (by omega) (by omega)
theorem minus_prog_ev (a b : List Int) (ha : OkB G a) (hb : OkB G b) (hla : a.length ≤ 100000000) : Ev (fun k => number_minus.f k a b) (minusS G a b a.length 0 0) := by
  have := minus_l0 a b ha hb (by omega) _ 0 rfl (Nat.zero_le _) [] 0 rfl (by omega)
  rw [List.nil_append] at this
  refine Ev.congr (fun k => ?_) this
  simp only [number_minus.f]
  rfl

/-- A value with its sign. -/
def sv (B : Int) (l : List Int) (neg : Bool) : Int := if neg = true then -(vB B l) else vB B l
end Go.Proofs.YtlnneellihkdkaaDoor.D
namespace Go.Proofs.YtlnneellihkdkaaDoor.D
open Go.RowKit Go.Proofs.YtlnneellihkdkaaDoorW.PrintWords Go.Proofs.YtlnneellihkdkaaDoorW.PrintLast Go.Proofs.YtlnneellihkdkaaDoorW.PrintMore
set_option linter.unusedVariables false
set_option linter.unusedSimpArgs false

theorem vB_set (B : Int) (l : List Int) : ∀ (j : Nat) (v : Int), j < l.length → vB B (l.set j v) = vB B l + B ^ j * (v - l.getD j 0) := by
  induction l with
  | nil => intro j v h; simp at h
  | cons x l ih =>
    intro j v h
    cases j with
    | zero => simp [vB]; omega
    | succ j =>
      have := ih j v (by simpa using h)
      rw [List.set_cons_succ, vB, vB, this, Int.mul_add, List.getD_cons_succ, Int.pow_succ]
      rw [show B * (B ^ j * (v - l.getD j 0)) = B ^ j * B * (v - l.getD j 0) by ac_rfl]
      omega
theorem OkB_set {B : Int} {l : List Int} (h : OkB B l) (j : Nat) {v : Int} (hv : 0 ≤ v ∧ v < B) : OkB B (l.set j v) := fun x hx => by
  rcases List.mem_or_eq_of_mem_set hx with h' | rfl
  · exact h x h'
  · exact hv
theorem vB_zeros (B : Int) (n : Nat) : vB B (List.replicate n 0) = 0 := by
  induction n with
  | zero => rfl
  | succ n ih => rw [List.replicate_succ, vB, ih]; simp
theorem mul_step (B P o x bk c D V n : Int) (hn : n = o + x * bk + c) :
    V + P * (n % B - o) + P * B * (n / B) + x * (P * B) * D = V + P * c + x * P * (bk + B * D) := by
  have h := Int.emod_add_mul_ediv n B
  generalize n % B = m at *
  generalize n / B = q at *
  have e : P * m + P * (B * q) = P * o + P * (x * bk) + P * c := by rw [← Int.mul_add, h, hn, Int.mul_add, Int.mul_add]
  have e2 : x * P * (bk + B * D) = P * (x * bk) + x * (P * B) * D := by
    rw [Int.mul_add, show x * P * bk = P * (x * bk) by ac_rfl, show x * P * (B * D) = x * (P * B) * D by ac_rfl]
  rw [e2, Int.mul_sub, Int.mul_assoc P B q]
  omega
theorem mul_small {a x : Int} {k : Int} (ha : 0 ≤ a ∧ a ≤ k) (hx : 0 ≤ x ∧ x ≤ k) : 0 ≤ a * x ∧ a * x ≤ k * k :=
  ⟨Int.mul_nonneg ha.1 hx.1, Int.mul_le_mul ha.2 hx.2 hx.1 (by omega)⟩

theorem times_l1 (a b : List Int) (ha : OkB G a) (hb : OkB G b) (N i : Nat) (x : Int) (hx : 0 ≤ x ∧ x < G) (hN : N = a.length + b.length + 1) (hi : i < a.length) (hsm : N ≤ 1000000) (T : Int) (hT : T < G ^ N) (R : List Int → Prop)
    (hnext : ∀ out : List Int, OkB G out → out.length = N → vB G out = T → ∃ r, Ev (fun K => number_times.l0 K b out a (a.length : Int) ((i + 1 : Nat) : Int)) r ∧ R r)
    (m : Nat) : ∀ (k : Nat) (out : List Int) (c : Int), N - (i + k) = m → i + k ≤ N → OkB G out → out.length = N → 0 ≤ c ∧ c < G → vB G out + G ^ (i + k) * c + x * G ^ (i + k) * vB G (b.drop k) = T →
      ∃ r, Ev (fun K => number_times.l1 K b out (i : Int) x c (k : Int) a (a.length : Int) (i : Int)) r ∧ R r := by
  have hG : G = 1000000000 := rfl
  induction m with
  | zero =>
    intro k out c hm hk hok hl hc hv
    have hkb : b.length ≤ k := by omega
    have hc0 : c = 0 := by
      have h1 := vB_bounds G (by decide) out hok
      rw [List.drop_eq_nil_of_le hkb] at hv
      simp only [vB, Int.mul_zero, Int.add_zero] at hv
      have hP := pow_ge1 G (by decide) N
      have hle : i + k = N := by omega
      rw [hle] at hv
      rcases Int.lt_or_le 0 c with h | h
      · have : G ^ N * 1 ≤ G ^ N * c := Int.mul_le_mul_of_nonneg_left (by omega) (by omega)
        omega
      · omega
    subst hc0
    rw [List.drop_eq_nil_of_le hkb] at hv
    simp only [vB, Int.mul_zero, Int.add_zero] at hv
    obtain ⟨r, hr, hR⟩ := hnext out hok hl hv
    refine ⟨r, Ev.step (fun K => ?_) hr, hR⟩
    simp only [number_times.l1]
    rw [if_neg (by omega), if_neg (by omega), show wrap64 ((i : Int) + 1) = ((i + 1 : Nat) : Int) from by unfold wrap64; omega]
  | succ m ih =>
    intro k out c hm hk hok hl hc hv
    have hoj := getD_ok (by decide : 1 ≤ G) hok (i + k)
    have hbk := getD_ok (by decide : 1 ≤ G) hb k
    have hxb := mul_small (a := x) (x := b.getD k 0) (k := 999999999) (by omega) (by omega)
    obtain ⟨n, hn⟩ : ∃ n, n = out.getD (i + k) 0 + x * b.getD k 0 + c := ⟨_, rfl⟩
    have hn0 : 0 ≤ n ∧ n < 1000000000 * 1000000000 := by omega
    have hq : 0 ≤ n / G ∧ n / G < G := by rw [hG]; omega
    have hr : 0 ≤ n % G ∧ n % G < G := by rw [hG]; omega
    have hP : G ^ (i + (k + 1)) = G ^ (i + k) * G := by rw [show i + (k + 1) = i + k + 1 by omega, Int.pow_succ]
    have KEY := Aside0.mk (show vB G (out.set (i + k) (n % G)) + G ^ (i + (k + 1)) * (n / G) + x * G ^ (i + (k + 1)) * vB G (b.drop (k + 1)) = T by
      rw [vB_set G out _ _ (by omega), hP, mul_step G (G ^ (i + k)) _ x _ c _ _ n hn, ← vB_drop, hv])
    clear hP
    have E3 := Aside0.mk (show IntKind.u64.wrap (IntKind.u64.wrap (rd out ((i + k : Nat) : Int) + IntKind.u64.wrap (x * b.getD k 0)) + c) = n by
      rw [show rd out ((i + k : Nat) : Int) = out.getD (i + k) 0 from by unfold rd; rw [Int.toNat_natCast]]
      rw [u64_id (x := x * b.getD k 0) (by omega) (by omega), u64_id (x := out.getD (i + k) 0 + x * b.getD k 0) (by omega) (by omega), u64_id (by omega) (by omega), hn])
    have T1 := Aside0.mk (show Int.tmod n 1000000000 = n % G from Int.tmod_eq_emod_of_nonneg hn0.1)
    have T2 := Aside0.mk (show Int.tdiv n 1000000000 = n / G from Int.tdiv_eq_ediv_of_nonneg hn0.1)
    have W2 := Aside0.mk (u64_id hq.1 (by omega))
    have HQ := Aside0.mk hq
    have HR := Aside0.mk hr
    have HV := Aside0.mk hv
    clear hq hr hv hxb hoj hbk hn hn0
    have E1 := Aside0.mk (show wrap64 ((i : Int) + (k : Int)) = ((i + k : Nat) : Int) by unfold wrap64; omega)
    have E2 := Aside0.mk (show wrap64 ((k : Int) + 1) = ((k + 1 : Nat) : Int) by unfold wrap64; omega)
    have EI := Aside0.mk (show wrap64 ((i : Int) + 1) = ((i + 1 : Nat) : Int) by unfold wrap64; omega)
    by_cases hkb : k < b.length
    · obtain ⟨r, hr', hR⟩ := ih (k + 1) _ _ (by omega) (by omega) (OkB_set hok _ HR.out) (by simp [hl]) HQ.out KEY.out
      refine ⟨r, Ev.step (fun K => ?_) hr', hR⟩
      simp only [number_times.l1]
      rw [if_pos (by omega), E1.out, if_pos (by omega), if_pos (by omega)]
      simp only [limb_nat, Option.bind_some]
      rw [E3.out, T1.out, T2.out, W2.out, E2.out, Int.toNat_natCast]
    · by_cases hc0 : 0 < c
      · obtain ⟨r, hr', hR⟩ := ih (k + 1) _ _ (by omega) (by omega) (OkB_set hok _ HR.out) (by simp [hl]) HQ.out KEY.out
        refine ⟨r, Ev.step (fun K => ?_) hr', hR⟩
        simp only [number_times.l1]
        rw [if_neg (by omega), if_pos (by omega), E1.out, if_pos (by omega), if_pos (by omega)]
        simp only [limb_nat, Option.bind_some]
        rw [E3.out, T1.out, T2.out, W2.out, E2.out, Int.toNat_natCast]
      · obtain rfl : c = 0 := by omega
        have hv := HV.out
        clear HV
        rw [List.drop_eq_nil_of_le (by omega)] at hv
        simp only [vB, Int.mul_zero, Int.add_zero] at hv
        obtain ⟨r, hr', hR⟩ := hnext out hok hl hv
        refine ⟨r, Ev.step (fun K => ?_) hr', hR⟩
        simp only [number_times.l1]
        rw [if_neg (by omega), if_neg (by omega), EI.out]

theorem times_l0 (a b : List Int) (ha : OkB G a) (hb : OkB G b) (N : Nat) (hN : N = a.length + b.length + 1) (hsm : N ≤ 1000000) (d : Nat) : ∀ (i : Nat) (out : List Int), a.length - i = d → i ≤ a.length → OkB G out → out.length = N → vB G out = vB G (a.take i) * vB G b →
    ∃ r, Ev (fun K => number_times.l0 K b out a (a.length : Int) (i : Int)) r ∧ (OkB G r ∧ r.length = N ∧ vB G r = vB G a * vB G b) := by
  induction d with
  | zero =>
    intro i out hd hi hok hl hv
    refine ⟨out, Ev.step (f := fun _ => some out) (fun k => ?_) (Ev.now out), hok, hl, ?_⟩
    · simp only [number_times.l0]
      rw [if_neg (by omega)]
    · rw [hv, List.take_of_length_le (by omega)]
  | succ d ih =>
    intro i out hd hi hok hl hv
    have hx := getD_ok (by decide : 1 ≤ G) ha i
    have hT : vB G (a.take (i + 1)) * vB G b = vB G out + G ^ (i + 0) * 0 + a.getD i 0 * G ^ (i + 0) * vB G (b.drop 0) := by
      rw [hv, vB_take, Int.add_mul, List.drop_zero, Nat.add_zero, Int.mul_zero, Int.add_zero, Int.mul_comm (a.getD i 0)]
    have hlt : vB G (a.take (i + 1)) * vB G b < G ^ N := by
      have h1 := vB_bounds G (by decide) (a.take (i + 1)) (OkB_take ha _)
      have h2 := vB_bounds G (by decide) b hb
      have hl1 : (a.take (i + 1)).length = i + 1 := by rw [List.length_take]; omega
      rw [hl1] at h1
      have p1 := pow_ge1 G (by decide) (i + 1)
      have p2 := pow_ge1 G (by decide) b.length
      have m1 : vB G (a.take (i + 1)) * vB G b ≤ G ^ (i + 1) * vB G b := Int.mul_le_mul_of_nonneg_right (by omega) h2.1
      have m2 : G ^ (i + 1) * (vB G b + 1) ≤ G ^ (i + 1) * G ^ b.length := Int.mul_le_mul_of_nonneg_left (by omega) (by omega)
      rw [Int.mul_add, Int.mul_one, ← Int.pow_add] at m2
      have := pow_mono G (by decide) (m := i + 1 + b.length) (n := N) (by omega)
      omega
    obtain ⟨r, hr, hR⟩ := times_l1 a b ha hb N i (a.getD i 0) hx hN (by omega) hsm _ hlt (fun r => OkB G r ∧ r.length = N ∧ vB G r = vB G a * vB G b)
      (fun out' h1 h2 h3 => ih (i + 1) out' (by omega) (by omega) h1 h2 h3) (N - (i + 0)) 0 out 0 rfl (by omega) hok hl (by decide) hT.symm
    refine ⟨r, Ev.step (fun K => ?_) hr, hR⟩
    simp only [number_times.l0]
    rw [if_pos (by omega), if_pos (by omega), if_pos (by omega), show rd a (i : Int) = a.getD i 0 from by simp [rd]]
    rfl
theorem times_prog_ev (a b : List Int) (ha : OkB G a) (hb : OkB G b) (hla : a.length ≤ 100000) (hlb : b.length ≤ 100000) :
    ∃ r, Ev (fun k => number_times.f k a b) r ∧ OkB G r ∧ r.length = a.length + b.length + 1 ∧ vB G r = vB G a * vB G b := by
  obtain ⟨r, hr, h1, h2, h3⟩ := times_l0 a b ha hb _ rfl (by omega) a.length 0 (List.replicate (a.length + b.length + 1) 0) rfl (Nat.zero_le _) (fun x hx => by rw [(List.mem_replicate.1 hx).2]; decide) (by simp) (by rw [vB_zeros]; simp [vB])
  refine ⟨r, Ev.congr (fun k => ?_) hr, h1, h2, h3⟩
  simp only [number_times.f]
  rw [show wrap64 (wrap64 ((a.length : Int) + (b.length : Int)) + 1) = ((a.length + b.length + 1 : Nat) : Int) from by unfold wrap64; omega, if_pos (by omega), Int.toNat_natCast, if_pos (by omega)]
  rfl
end Go.Proofs.YtlnneellihkdkaaDoor.D
namespace Go.Proofs.YtlnneellihkdkaaDoor.D
open Go.RowKit Go.Proofs.YtlnneellihkdkaaDoorW.PrintWords Go.Proofs.YtlnneellihkdkaaDoorW.PrintLast Go.Proofs.YtlnneellihkdkaaDoorW.PrintMore
set_option linter.unusedVariables false
set_option linter.unusedSimpArgs false

/-! ### noughts above taken away -/
def trimN : Nat → List Int → List Int
  | 0, l => l
  | n + 1, l => if l.length = n + 1 ∧ l.getD n 0 = 0 then trimN n (l.take n) else l
def trimL (l : List Int) : List Int := trimN l.length l
theorem trimN_all (B : Int) (n : Nat) : ∀ l : List Int, l.length = n → vB B (trimN n l) = vB B l ∧ (OkB B l → OkB B (trimN n l)) ∧ (trimN n l).length ≤ l.length ∧ (trimN n l ≠ [] → (trimN n l).getD ((trimN n l).length - 1) 0 ≠ 0) := by
  induction n with
  | zero => intro l hl; obtain rfl := List.length_eq_zero_iff.1 hl; simp [trimN]
  | succ n ih =>
    intro l hl
    simp only [trimN]
    split
    · rename_i h
      obtain ⟨h1, h2, h3, h4⟩ := ih (l.take n) (by rw [List.length_take]; omega)
      refine ⟨?_, fun ho => h2 (OkB_take ho n), by rw [List.length_take] at h3; omega, h4⟩
      have := vB_take B l n
      rw [List.take_of_length_le (by omega), h.2, Int.mul_zero, Int.add_zero] at this
      rw [h1, this]
    · rename_i h
      refine ⟨rfl, fun h => h, Nat.le_refl _, fun _ e => h ⟨hl, by rw [hl] at e; exact e⟩⟩
theorem trim_ev (neg : Bool) (n : Nat) : ∀ l : List Int, l.length = n → n ≤ 1000000000 → Ev (fun k => number_value_trim.l0 k l neg) (trimN n l, if trimN n l = [] then false else neg) := by
  induction n with
  | zero =>
    intro l hl _
    obtain rfl := List.length_eq_zero_iff.1 hl
    refine Ev.step (f := fun _ => some ([], false)) (fun k => ?_) (by simpa [trimN] using Ev.now (([] : List Int), false))
    simp only [number_value_trim.l0]
    rw [if_neg (by simp), if_pos (by simp)]
  | succ n ih =>
    intro l hl hn
    have hw : wrap64 ((l.length : Int) - 1) = (n : Int) := by unfold wrap64; omega
    have hrd : rd l (n : Int) = l.getD n 0 := by simp [rd]
    simp only [trimN]
    split
    · rename_i h
      refine Ev.step (fun k => ?_) (ih (l.take n) (by rw [List.length_take]; omega) (by omega))
      simp only [number_value_trim.l0]
      rw [if_pos (by omega), hw, if_pos (by omega), if_pos (by omega), hrd, if_pos h.2, if_pos (by omega), Int.toNat_natCast]
    · rename_i h
      have hne : l ≠ [] := by rintro rfl; simp at hl
      rw [if_neg hne]
      refine Ev.step (f := fun _ => some (l, neg)) (fun k => ?_) (Ev.now _)
      simp only [number_value_trim.l0]
      rw [if_pos (by omega), hw, if_pos (by omega), if_pos (by omega), hrd, if_neg (fun e => h ⟨hl, e⟩), if_neg (by omega)]
def trimP (l : List Int) (neg : Bool) : List Int × Bool := (trimL l, if trimL l = [] then false else neg)
theorem trim_prog_ev (l : List Int) (neg : Bool) (h : l.length ≤ 1000000000) : Ev (fun k => number_value_trim.f k l neg) (trimP l neg) :=
  Ev.congr (fun k => by simp only [number_value_trim.f]) (trim_ev neg l.length l rfl h)

/-! ### limbs of digits -/
def chunks : Nat → List UInt8 → List Int
  | 0, _ => []
  | n + 1, d => if d = [] then [] else (N.dv (d.drop (d.length - 9)) : Int) :: chunks n (d.take (d.length - 9))
theorem dv_app (a b : List UInt8) : N.dv (a ++ b) = N.dv a * 10 ^ b.length + N.dv b := by
  have : N.dv (a ++ b) = N.dvF (N.dv a) b := by unfold N.dv N.dvF; rw [List.foldl_append]
  rw [this, N.dvF_eq]
theorem chunks_val (n : Nat) : ∀ d : List UInt8, d.length ≤ n → d.all N.digU = true → vB G (chunks n d) = (N.dv d : Int) ∧ OkB G (chunks n d) ∧ (chunks n d).length ≤ d.length := by
  induction n with
  | zero => intro d hl _; obtain rfl := List.length_eq_zero_iff.1 (by omega : d.length = 0); exact ⟨rfl, fun x hx => by simp [chunks] at hx, by simp [chunks]⟩
  | succ n ih =>
    intro d hl ha
    simp only [chunks]
    split
    · rename_i h; subst h; exact ⟨rfl, fun x hx => by simp at hx, by simp⟩
    · rename_i h
      have hpos : 0 < d.length := List.length_pos_iff.2 h
      have hs : d = d.take (d.length - 9) ++ d.drop (d.length - 9) := (List.take_append_drop _ _).symm
      have ha' := ha
      rw [hs, List.all_append, Bool.and_eq_true] at ha'
      obtain ⟨h1, h2, h3⟩ := ih (d.take (d.length - 9)) (by rw [List.length_take]; omega) ha'.1
      have hlt := N.dv_lt _ ha'.2
      have hdl : (d.drop (d.length - 9)).length ≤ 9 := by rw [List.length_drop]; omega
      have hp : (10 : Nat) ^ (d.drop (d.length - 9)).length ≤ 10 ^ 9 := Nat.pow_le_pow_right (by omega) hdl
      have hG : G = 1000000000 := rfl
      have h9 : (10 : Nat) ^ 9 = 1000000000 := by decide
      refine ⟨?_, ?_, by rw [List.length_cons]; rw [List.length_take] at h3; omega⟩
      · rw [vB, h1]
        have hv := dv_app (d.take (d.length - 9)) (d.drop (d.length - 9))
        rw [← hs] at hv
        by_cases h10 : 9 ≤ d.length
        · rw [show (d.drop (d.length - 9)).length = 9 by rw [List.length_drop]; omega, h9] at hv
          rw [hv, hG]; omega
        · have : d.take (d.length - 9) = [] := by rw [show d.length - 9 = 0 by omega]; rfl
          rw [this] at hv ⊢
          have e0 : N.dv [] = 0 := rfl
          rw [e0] at hv ⊢
          rw [hv]; omega
      · intro x hx
        rcases List.mem_cons.1 hx with rfl | hx
        · rw [hG]; omega
        · exact h2 x hx
theorem atoi_digits {l : List UInt8} (hne : l ≠ []) (ha : l.all N.digU = true) (hv : N.dv l < 9223372036854775808) : Lib.atoiAll l = .ok (N.dv l : Int) := by
  have hp := N.parse_digits l ha 0 (by omega)
  have hm : Lib.parseMag l = Lib.parseUint10 0 l := by unfold Lib.parseMag; rw [if_neg hne]
  cases l with
  | nil => exact absurd rfl hne
  | cons c r =>
    have hc : 48 ≤ c.toNat ∧ c.toNat ≤ 57 := by
      simp only [List.all_cons, Bool.and_eq_true] at ha
      simpa [N.digU] using ha.1
    have h1 : ¬ (c.toNat = 43 ∨ c.toNat = 45) := by omega
    have h2 : ¬ c.toNat = 45 := by omega
    have hp' : Lib.parseUint10 0 (c :: r) = .ok (N.dv (c :: r)) := by
      rw [hp]
      exact if_pos (show N.dv (c :: r) < 18446744073709551616 by omega)
    have h3 : ¬ c.toNat = 43 := by omega
    simp only [Lib.atoiAll, h2, h3, or_self, not_false_eq_true, true_and, false_and, if_false]
    rw [hm, hp']
    exact if_neg (by omega)
theorem take_ba (s : ByteArray) (n : Nat) : (s.extract 0 n).data.toList = s.data.toList.take n := by
  rw [Lib.extract_data, List.drop_zero, Nat.sub_zero]

theorem parse_l0 (neg : Bool) (n : Nat) : ∀ t : ByteArray, t.data.toList.length ≤ n → t.data.toList.length ≤ 1000 → t.data.toList.all N.digU = true → ∀ acc : List Int, acc.length + t.data.toList.length ≤ 1000 →
    Ev (fun k => number_parse.l0 k t acc neg) (trimP (acc ++ chunks n t.data.toList) neg) := by
  induction n with
  | zero =>
    intro t hl _ _ acc ha
    have hsz := size_u t
    have h0 : t.data.toList = [] := List.length_eq_zero_iff.1 (by omega)
    simp only [chunks, List.append_nil]
    refine Ev.step (f := fun k => (number_value_trim.f k acc neg).bind fun bt213 => some (bt213.1, bt213.2)) (fun k => ?_) (Ev.bind (trim_prog_ev acc neg (by omega)) (Ev.now _))
    simp only [number_parse.l0]
    rw [if_neg (by omega)]
  | succ n ih =>
    intro t hl hm hd acc ha
    have hsz := size_u t
    simp only [chunks]
    by_cases h : t.data.toList = []
    · rw [if_pos h, List.append_nil]
      refine Ev.step (f := fun k => (number_value_trim.f k acc neg).bind fun bt213 => some (bt213.1, bt213.2)) (fun k => ?_) (Ev.bind (trim_prog_ev acc neg (by omega)) (Ev.now _))
      simp only [number_parse.l0]
      rw [if_neg (by rw [hsz, h]; simp)]
    · rw [if_neg h]
      have hpos : 0 < t.data.toList.length := List.length_pos_iff.2 h
      have hmx : mx 0 (wrap64 ((t.size : Int) - 9)) = ((t.data.toList.length - 9 : Nat) : Int) := by
        rw [hsz, show wrap64 (((t.data.toList.length : Nat) : Int) - 9) = (t.data.toList.length : Int) - 9 from by unfold wrap64; omega]
        unfold mx; split <;> omega
      have hall := hd
      rw [show t.data.toList = t.data.toList.take (t.data.toList.length - 9) ++ t.data.toList.drop (t.data.toList.length - 9) from (List.take_append_drop _ _).symm, List.all_append, Bool.and_eq_true] at hall
      have hdl : (t.data.toList.drop (t.data.toList.length - 9)).length ≤ 9 := by rw [List.length_drop]; omega
      have hlt := N.dv_lt _ hall.2
      have hp : (10 : Nat) ^ (t.data.toList.drop (t.data.toList.length - 9)).length ≤ 10 ^ 9 := Nat.pow_le_pow_right (by omega) hdl
      have h9 : (10 : Nat) ^ 9 = 1000000000 := by decide
      have hat := atoi_digits (l := t.data.toList.drop (t.data.toList.length - 9)) (by
        intro e
        have := congrArg List.length e
        rw [List.length_drop] at this
        simp at this; omega) hall.2 (by omega)
      have e1 : (t.extract (t.data.toList.length - 9) t.size).data.toList = t.data.toList.drop (t.data.toList.length - 9) := Lib.extract_to_end t _
      have e2 : (t.extract 0 (t.data.toList.length - 9)).data.toList = t.data.toList.take (t.data.toList.length - 9) := take_ba t _
      have hA : strconv_Atoi_29.f (t.extract (t.data.toList.length - 9) t.size) = some ((N.dv (t.data.toList.drop (t.data.toList.length - 9)) : Int), none) := by
        unfold strconv_Atoi_29.f
        rw [if_pos (by rw [size_u, e1]; omega), e1, hat]
      have := ih (t.extract 0 (t.data.toList.length - 9)) (by rw [e2, List.length_take]; omega) (by rw [e2, List.length_take]; omega) (by rw [e2]; exact hall.1) (acc ++ [(N.dv (t.data.toList.drop (t.data.toList.length - 9)) : Int)]) (by rw [e2, List.length_append, List.length_take, List.length_singleton]; omega)
      rw [e2, List.append_assoc, List.singleton_append] at this
      refine Ev.step (fun k => ?_) this
      simp only [number_parse.l0]
      rw [if_pos (by omega), hmx, if_pos (by omega), if_pos (by omega), Int.toNat_natCast, hA]
      simp only [Option.bind_some]
      rw [if_pos (by omega), u64_id (by omega) (by omega)]

/-- A number's limbs. -/
def limbsU (l : List UInt8) : List Int := trimL (chunks 1000 (N.digits l))
theorem limbs_val {l : List UInt8} (h : N.canU l = true) : vB G (limbsU l) = (N.dv (N.digits l) : Int) ∧ OkB G (limbsU l) ∧ (limbsU l).length ≤ 200 ∧ (limbsU l ≠ [] → (limbsU l).getD ((limbsU l).length - 1) 0 ≠ 0) := by
  obtain ⟨h1, h2, h3, h4⟩ := N.can_open h
  obtain ⟨c1, c2, c3⟩ := chunks_val 1000 (N.digits l) (by omega) h3
  obtain ⟨t1, t2, t3, t4⟩ := trimN_all G _ (chunks 1000 (N.digits l)) rfl
  exact ⟨t1.trans c1, t2 c2, by show (trimN _ _).length ≤ 200; omega, t4⟩
theorem vB_nil_iff (B : Int) (l : List Int) (h : vB B l ≠ 0) : l ≠ [] := by rintro rfl; exact h rfl
theorem parse_prog_ev (s : ByteArray) (hs : s.size ≤ 9223372036854775807) (h : N.canU s.data.toList = true) : Ev (fun k => number_parse.f k s) (limbsU s.data.toList, negU s.data.toList) := by
  obtain ⟨h1, h2, h3, h4⟩ := N.can_open h
  obtain ⟨l1, l2, l3, l4⟩ := limbs_val h
  obtain ⟨vn, vp⟩ := val_neg h
  obtain ⟨t, ht, htl, htb, heq⟩ := trim_minus s
  have hneg : (bytesOf s).head? = some 45 ↔ negU s.data.toList = true := by
    have := head_byte s.data.toList 45
    rw [show ((45 : UInt8).toNat : Int) = 45 from rfl] at this
    rw [bytes_map]
    unfold negU
    rw [← this, beq_iff_eq]
  have htd : t.data.toList = N.digits s.data.toList := by
    have hb : (t.data.toList.map fun b => (b.toNat : Int)) = (N.digits s.data.toList).map fun b => (b.toNat : Int) := by
      rw [← bytes_map, htb, bytes_map]
      unfold N.digits
      by_cases hm : s.data.toList.head? = some 45
      · rw [if_pos hm, if_pos (by have := head_byte s.data.toList 45; rw [show ((45 : UInt8).toNat : Int) = 45 from rfl] at this; rw [this]; simpa using hm), List.map_tail]
      · rw [if_neg hm, if_neg (by have := head_byte s.data.toList 45; rw [show ((45 : UInt8).toNat : Int) = 45 from rfl] at this; rw [this]; simpa using hm)]
    exact bytes_inj hb
  have hflag : (t.toList != s.toList) = negU s.data.toList := by
    cases hn : negU s.data.toList with
    | true =>
      have := hneg.2 hn
      have h5 : ¬ t.toList = s.toList := fun e => (heq.1 e) this
      simpa using h5
    | false =>
      have : ¬ (bytesOf s).head? = some 45 := fun e => by rw [hneg.1 e] at hn; cases hn
      have h5 := heq.2 this
      simp [h5]
  simp only [number_parse.f]
  refine Ev.bind (can_prog_u s hs) ?_
  rw [h]
  refine Ev.congr (fun k => if_pos rfl) ?_
  simp only [ht, Option.bind_some, hflag]
  have := parse_l0 (negU s.data.toList) 1000 t (by rw [htd]; omega) (by rw [htd]; omega) (by rw [htd]; exact h3) [] (by rw [htd]; simp; omega)
  rw [List.nil_append, htd] at this
  have hlast : (if trimL (chunks 1000 (N.digits s.data.toList)) = [] then false else negU s.data.toList) = negU s.data.toList := by
    split
    · rename_i he
      cases hn : negU s.data.toList with
      | false => rfl
      | true =>
        have hp := (vn hn).2
        have : limbsU s.data.toList ≠ [] := vB_nil_iff G _ (by rw [l1]; omega)
        exact absurd he this
    · rfl
  unfold trimP at this
  rw [hlast] at this
  exact this
end Go.Proofs.YtlnneellihkdkaaDoor.D
