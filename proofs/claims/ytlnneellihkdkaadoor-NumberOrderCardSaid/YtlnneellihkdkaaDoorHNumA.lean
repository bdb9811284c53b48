/- Sums and differences of lists of digits: the program's (in base 1000000000) and the reference's (in base 10). -/
import Derived.Test.YtlnneellihkdkaaDoorDx12
import Derived.Test.YtlnneellihkdkaaDoorDx13
import Derived.Test.YtlnneellihkdkaaDoorDx17
import Derived.Test.YtlnneellihkdkaaDoorDx18
import Derived.Test.YtlnneellihkdkaaDoorHRefA
namespace Go.Proofs.YtlnneellihkdkaaDoor.D
open Go.RowKit Go.Proofs.YtlnneellihkdkaaDoorW.PrintWords Go.Proofs.YtlnneellihkdkaaDoorW.PrintLast Go.Proofs.YtlnneellihkdkaaDoorW.PrintMore
set_option linter.unusedVariables false
set_option linter.unusedSimpArgs false

theorem vB_drop (B : Int) (l : List Int) (i : Nat) : vB B (l.drop i) = l.getD i 0 + B * vB B (l.drop (i + 1)) := by
  by_cases h : i < l.length
  · rw [List.drop_eq_getElem_cons h, vB]
    simp [List.getD_eq_getElem?_getD, List.getElem?_eq_getElem h]
  · rw [List.drop_eq_nil_of_le (by omega), List.drop_eq_nil_of_le (by omega), List.getD_eq_getElem?_getD, List.getElem?_eq_none (by omega)]
    simp [vB]
theorem getD_over (l : List Int) (i : Nat) (h : l.length ≤ i) : l.getD i 0 = 0 := by
  rw [List.getD_eq_getElem?_getD, List.getElem?_eq_none h]; rfl

/-! ### sums -/
def plusS (B : Int) (a b : List Int) : Nat → Nat → Int → List Int
  | 0, _, _ => []
  | n + 1, i, c => (a.getD i 0 + b.getD i 0 + c) % B :: plusS B a b n (i + 1) ((a.getD i 0 + b.getD i 0 + c) / B)
theorem plusS_len (B : Int) (a b : List Int) (n : Nat) : ∀ i c, (plusS B a b n i c).length = n := by
  induction n with
  | zero => intro i c; rfl
  | succ n ih => intro i c; simp [plusS, ih]
theorem plusS_ok (B : Int) (hB : 2 ≤ B) (a b : List Int) (n : Nat) : ∀ i c, OkB B (plusS B a b n i c) := by
  induction n with
  | zero => intro i c x hx; simp [plusS] at hx
  | succ n ih =>
    intro i c x hx
    simp only [plusS, List.mem_cons] at hx
    rcases hx with rfl | hx
    · exact ⟨Int.emod_nonneg _ (by omega), Int.emod_lt_of_pos _ (by omega)⟩
    · exact ih _ _ x hx
theorem carry_small (B x y c : Int) (hB : 2 ≤ B) (hx : 0 ≤ x ∧ x < B) (hy : 0 ≤ y ∧ y < B) (hc : 0 ≤ c ∧ c ≤ 1) : 0 ≤ (x + y + c) / B ∧ (x + y + c) / B ≤ 1 := by
  refine ⟨Int.ediv_nonneg (by omega) (by omega), ?_⟩
  have : (x + y + c) / B < 2 := Int.ediv_lt_of_lt_mul (by omega) (by omega)
  omega
theorem plusS_val (B : Int) (hB : 2 ≤ B) (a b : List Int) (ha : OkB B a) (hb : OkB B b) (n : Nat) : ∀ (i : Nat) (c : Int), 0 ≤ c ∧ c ≤ 1 → a.length + 1 ≤ i + n → b.length + 1 ≤ i + n → (n = 0 → c = 0) →
    vB B (plusS B a b n i c) = c + vB B (a.drop i) + vB B (b.drop i) := by
  induction n with
  | zero =>
    intro i c hc h1 h2 h0
    rw [List.drop_eq_nil_of_le (by omega), List.drop_eq_nil_of_le (by omega), h0 rfl]
    simp [plusS, vB]
  | succ n ih =>
    intro i c hc h1 h2 h0
    have hx := getD_ok (by omega : 1 ≤ B) ha i
    have hy := getD_ok (by omega : 1 ≤ B) hb i
    have hcs := carry_small B _ _ c hB hx hy hc
    rw [plusS, vB, ih (i + 1) _ hcs (by omega) (by omega) (fun hn => by
      subst hn
      rw [getD_over a i (by omega), getD_over b i (by omega)]
      exact Int.ediv_eq_zero_of_lt (by omega) (by omega)), vB_drop B a i, vB_drop B b i]
    generalize a.getD i 0 = x at *
    generalize b.getD i 0 = y at *
    have := Int.emod_add_mul_ediv (x + y + c) B
    rw [Int.mul_add, Int.mul_add]
    omega

/-! ### differences -/
def minusS (B : Int) (a b : List Int) : Nat → Nat → Int → List Int
  | 0, _, _ => []
  | n + 1, i, h => if a.getD i 0 - b.getD i 0 - h < 0 then (a.getD i 0 - b.getD i 0 - h + B) :: minusS B a b n (i + 1) 1 else (a.getD i 0 - b.getD i 0 - h) :: minusS B a b n (i + 1) 0
theorem minusS_len (B : Int) (a b : List Int) (n : Nat) : ∀ i c, (minusS B a b n i c).length = n := by
  induction n with
  | zero => intro i c; rfl
  | succ n ih => intro i c; simp only [minusS]; split <;> simp [ih]
theorem minusS_ok (B : Int) (hB : 2 ≤ B) (a b : List Int) (ha : OkB B a) (hb : OkB B b) (n : Nat) : ∀ i c, 0 ≤ c ∧ c ≤ 1 → OkB B (minusS B a b n i c) := by
  induction n with
  | zero => intro i c _ x hx; simp [minusS] at hx
  | succ n ih =>
    intro i c hc x hx
    have hx1 := getD_ok (by omega : 1 ≤ B) ha i
    have hy1 := getD_ok (by omega : 1 ≤ B) hb i
    simp only [minusS] at hx
    split at hx
    · rcases List.mem_cons.1 hx with rfl | hx
      · omega
      · exact ih _ _ (by omega) x hx
    · rcases List.mem_cons.1 hx with rfl | hx
      · omega
      · exact ih _ _ (by omega) x hx
theorem minusS_val (B : Int) (hB : 2 ≤ B) (a b : List Int) (ha : OkB B a) (hb : OkB B b) (n : Nat) : ∀ (i : Nat) (h : Int), 0 ≤ h ∧ h ≤ 1 →
    ∃ e : Int, 0 ≤ e ∧ e ≤ 1 ∧ vB B (minusS B a b n i h) = vB B ((a.drop i).take n) - vB B ((b.drop i).take n) - h + B ^ n * e := by
  induction n with
  | zero => intro i h hh; exact ⟨h, hh.1, hh.2, by simp [minusS, vB]; omega⟩
  | succ n ih =>
    intro i h hh
    have tk : ∀ l : List Int, vB B ((l.drop i).take (n + 1)) = l.getD i 0 + B * vB B ((l.drop (i + 1)).take n) := by
      intro l
      by_cases hl : i < l.length
      · rw [List.drop_eq_getElem_cons hl, List.take_succ_cons, vB]
        simp [List.getD_eq_getElem?_getD, List.getElem?_eq_getElem hl]
      · rw [List.drop_eq_nil_of_le (by omega), List.drop_eq_nil_of_le (by omega), getD_over l i (by omega)]
        simp [vB]
    rw [tk a, tk b, Int.pow_succ]
    simp only [minusS]
    generalize a.getD i 0 = x
    generalize b.getD i 0 = y
    split
    · obtain ⟨e, h1, h2, h3⟩ := ih (i + 1) 1 (by omega)
      refine ⟨e, h1, h2, ?_⟩
      rw [vB, h3, Int.mul_add, Int.mul_sub, Int.mul_sub, Int.mul_one, Int.mul_comm (B ^ n) B, Int.mul_assoc]
      omega
    · obtain ⟨e, h1, h2, h3⟩ := ih (i + 1) 0 (by omega)
      refine ⟨e, h1, h2, ?_⟩
      rw [vB, h3, Int.mul_add, Int.mul_sub, Int.mul_sub, Int.mul_zero, Int.mul_comm (B ^ n) B, Int.mul_assoc]
      omega
theorem vB_split (B : Int) (l : List Int) (n : Nat) (h : n ≤ l.length) : vB B l = vB B (l.take n) + B ^ n * vB B (l.drop n) := by
  have := vB_append B (l.take n) (l.drop n)
  rw [List.take_append_drop, List.length_take, Nat.min_eq_left h] at this
  exact this
/-- A greater one less another one, over as many places as the greater one has, or more. -/
theorem minus_val (B : Int) (hB : 2 ≤ B) (a b : List Int) (ha : OkB B a) (hb : OkB B b) (n : Nat) (hn : a.length ≤ n) (hle : vB B b ≤ vB B a) : vB B (minusS B a b n 0 0) = vB B a - vB B b := by
  obtain ⟨e, h1, h2, h3⟩ := minusS_val B hB a b ha hb n 0 0 (by omega)
  rw [List.drop_zero, List.drop_zero, List.take_of_length_le hn] at h3
  have hob := minusS_ok B hB a b ha hb n 0 0 (by omega)
  have hbd := vB_bounds B (by omega) _ hob
  rw [minusS_len] at hbd
  have hbt : vB B (b.take n) = vB B b := by
    by_cases hb2 : n ≤ b.length
    · have hs := vB_split B b n hb2
      have hd := vB_bounds B (by omega) (b.drop n) (fun x hx => hb x (List.mem_of_mem_drop hx))
      have ht := vB_bounds B (by omega) (b.take n) (OkB_take hb n)
      have hba := vB_bounds B (by omega) a ha
      have hp := pow_mono B (by omega) hn
      have hp1 := pow_ge1 B (by omega) n
      have : vB B (b.drop n) = 0 := by
        by_cases hpos : 0 < vB B (b.drop n)
        · have : B ^ n * 1 ≤ B ^ n * vB B (b.drop n) := Int.mul_le_mul_of_nonneg_left (by omega) (by omega)
          omega
        · omega
      rw [this, Int.mul_zero] at hs
      omega
    · rw [List.take_of_length_le (by omega)]
  rw [hbt] at h3
  have he : e = 0 := by
    by_cases hpos : 0 < e
    · have : e = 1 := by omega
      rw [this, Int.mul_one] at h3
      omega
    · omega
  rw [he] at h3
  omega

/-! ### the program's -/
abbrev G : Int := 1000000000
theorem limb_nat (l : List Int) (n : Nat) : number_limb.f l (n : Int) = some (l.getD n 0) := by
  unfold number_limb.f
  by_cases h : n < l.length
  · rw [if_pos (by omega), if_pos (by omega)]
    simp [rd]
  · rw [if_neg (by omega), List.getD_eq_getElem?_getD, List.getElem?_eq_none (by omega)]; rfl
theorem size_l0_prog (a b : List Int) (B : Int) (hB : 1 ≤ B) (ha : OkB B a) (hb : OkB B b) : ∀ n : Nat, n ≤ 9223372036854775807 → Ev (fun k => number_size.l0 k a b ((n : Int) - 1)) (cmpI (vB B (a.take n)) (vB B (b.take n))) := by
  intro n
  induction n with
  | zero =>
    intro _
    refine Ev.step (f := fun _ => some (0 : Int)) (fun k => ?_) (by simpa [vB, cmpI] using Ev.now (0 : Int))
    simp only [number_size.l0]
    rw [if_neg (by omega)]
  | succ n ih =>
    intro hn
    rw [cmp_step B hB a b ha hb n]
    have e : ((n + 1 : Nat) : Int) - 1 = (n : Int) := by omega
    rw [e]
    by_cases hx : a.getD n 0 = b.getD n 0
    · rw [if_pos hx]
      refine Ev.step (fun k => ?_) (ih (by omega))
      simp only [number_size.l0]
      rw [if_pos (by omega)]
      simp only [limb_nat, Option.bind_some]
      rw [if_pos hx, down_ n (by omega)]
    · rw [if_neg hx]
      refine Ev.step (f := fun _ => some (if a.getD n 0 < b.getD n 0 then (-1 : Int) else 1)) (fun k => ?_) (Ev.now _)
      simp only [number_size.l0]
      rw [if_pos (by omega)]
      simp only [limb_nat, Option.bind_some]
      rw [if_neg hx]
      split <;> rfl
theorem size_prog_ev (a b : List Int) (ha : OkB G a) (hb : OkB G b) (hla : a.length ≤ 1000000000) (hlb : b.length ≤ 1000000000) : Ev (fun k => number_size.f k a b) (cmpI (vB G a) (vB G b)) := by
  have := size_l0_prog a b G (by decide) ha hb (max a.length b.length) (by omega)
  rw [List.take_of_length_le (by omega), List.take_of_length_le (by omega)] at this
  refine Ev.congr (fun k => ?_) this
  simp only [number_size.f]
  rw [mx_nat, down_ _ (by omega)]

theorem u64_id {x : Int} (h0 : 0 ≤ x) (h1 : x < 18446744073709551616) : IntKind.u64.wrap x = x := by
  show x % 18446744073709551616 = x
  omega
theorem plus_l0 (a b : List Int) (ha : OkB G a) (hb : OkB G b) (N : Nat) (hN : N ≤ 1000000000) (d : Nat) : ∀ i : Nat, N - i = d → i ≤ N → ∀ (acc : List Int) (c : Int), acc.length = i → 0 ≤ c ∧ c ≤ 1 →
    Ev (fun k => number_plus.l0 k a b acc c (N : Int) i) (acc ++ plusS G a b d i c) := by
  induction d with
  | zero =>
    intro i hd hi acc c hl hc
    refine Ev.step (f := fun _ => some acc) (fun k => ?_) (by simpa [plusS] using Ev.now acc)
    simp only [number_plus.l0]
    rw [if_neg (by omega)]
  | succ d ih =>
    intro i hd hi acc c hl hc
    have hx := getD_ok (by decide : 1 ≤ G) ha i
    have hy := getD_ok (by decide : 1 ≤ G) hb i
    have hcs := carry_small G _ _ c (by decide) hx hy hc
    have hG : G = 1000000000 := rfl
    have h1 : IntKind.u64.wrap (IntKind.u64.wrap (a.getD i 0 + b.getD i 0) + c) = a.getD i 0 + b.getD i 0 + c := by
      rw [u64_id (x := a.getD i 0 + b.getD i 0) (by omega) (by omega), u64_id (x := a.getD i 0 + b.getD i 0 + c) (by omega) (by omega)]
    have := ih (i + 1) (by omega) (by omega) (acc ++ [(a.getD i 0 + b.getD i 0 + c) % G]) ((a.getD i 0 + b.getD i 0 + c) / G) (by simp [hl]) hcs
    rw [List.append_assoc, List.singleton_append] at this
    refine Ev.step (fun k => ?_) (show Ev _ (acc ++ plusS G a b (d + 1) i c) from this)
    simp only [number_plus.l0]
    rw [if_pos (by omega)]
    simp only [limb_nat, Option.bind_some]
    rw [if_pos (by omega), h1, show wrap64 ((i : Int) + 1) = ((i + 1 : Nat) : Int) from by unfold wrap64; omega]
    have t1 : Int.tmod (a.getD i 0 + b.getD i 0 + c) 1000000000 = (a.getD i 0 + b.getD i 0 + c) % G := Int.tmod_eq_emod_of_nonneg (by omega)
    have t2 : Int.tdiv (a.getD i 0 + b.getD i 0 + c) 1000000000 = (a.getD i 0 + b.getD i 0 + c) / G := Int.tdiv_eq_ediv_of_nonneg (by omega)
    rw [t1, t2, u64_id hcs.1 (by omega)]
theorem plus_prog_ev (a b : List Int) (ha : OkB G a) (hb : OkB G b) (hla : a.length ≤ 100000000) (hlb : b.length ≤ 100000000) : Ev (fun k => number_plus.f k a b) (plusS G a b (max a.length b.length + 1) 0 0) := by
  have := plus_l0 a b ha hb (max a.length b.length + 1) (by omega) _ 0 rfl (Nat.zero_le _) [] 0 rfl (by omega)
  rw [List.nil_append] at this
  refine Ev.congr (fun k => ?_) this
  simp only [number_plus.f]
  rw [mx_nat, show wrap64 (((max a.length b.length : Nat) : Int) + 1) = ((max a.length b.length + 1 : Nat) : Int) from by unfold wrap64; omega]
  rfl
theorem minus_l0 (a b : List Int) (ha : OkB G a) (hb : OkB G b) (hla : a.length ≤ 1000000000) (d : Nat) : ∀ i : Nat, a.length - i = d → i ≤ a.length → ∀ (acc : List Int) (h : Int), acc.length = i → 0 ≤ h ∧ h ≤ 1 →
    Ev (fun k => number_minus.l0 k a b acc h (a.length : Int) i) (acc ++ minusS G a b d i h) := by
  induction d with
  | zero =>
    intro i hd hi acc c hl hc
    refine Ev.step (f := fun _ => some acc) (fun k => ?_) (by simpa [minusS] using Ev.now acc)
    simp only [number_minus.l0]
    rw [if_neg (by omega)]
  | succ d ih =>
    intro i hd hi acc h hl hh
    have hx := getD_ok (by decide : 1 ≤ G) ha i
    have hy := getD_ok (by decide : 1 ≤ G) hb i
    have hG : G = 1000000000 := rfl
    have hrd : rd a (i : Int) = a.getD i 0 := by simp [rd]
    have hw : IntKind.u64.wrap (IntKind.u64.wrap (IntKind.u64.wrap (a.getD i 0 + 1000000000) - b.getD i 0) - h) = a.getD i 0 + 1000000000 - b.getD i 0 - h := by
      rw [u64_id (x := a.getD i 0 + 1000000000) (by omega) (by omega), u64_id (x := a.getD i 0 + 1000000000 - b.getD i 0) (by omega) (by omega), u64_id (x := a.getD i 0 + 1000000000 - b.getD i 0 - h) (by omega) (by omega)]
    have go : ∀ (dg h' : Int), (a.getD i 0 + 1000000000 - b.getD i 0 - h) % 1000000000 = dg → 1 - (a.getD i 0 + 1000000000 - b.getD i 0 - h) / 1000000000 = h' → 0 ≤ h' ∧ h' ≤ 1 → Ev (fun k => number_minus.l0 k a b acc h (a.length : Int) i) (acc ++ dg :: minusS G a b d (i + 1) h') := by
      intro dg h' e1 e2 hh'
      have := ih (i + 1) (by omega) (by omega) (acc ++ [dg]) h' (by simp [hl]) hh'
      rw [List.append_assoc, List.singleton_append] at this
      refine Ev.step (fun k => ?_) this
      simp only [number_minus.l0]
      rw [if_pos (by omega), if_pos (by omega), if_pos (by omega)]
      simp only [limb_nat, Option.bind_some]
      rw [if_pos (by omega), hrd, hw, show wrap64 ((i : Int) + 1) = ((i + 1 : Nat) : Int) from by unfold wrap64; omega]
      have t1 : Int.tmod (a.getD i 0 + 1000000000 - b.getD i 0 - h) 1000000000 = dg := by rw [← e1]; exact Int.tmod_eq_emod_of_nonneg (by omega)
      have t2 : Int.tdiv (a.getD i 0 + 1000000000 - b.getD i 0 - h) 1000000000 = (a.getD i 0 + 1000000000 - b.getD i 0 - h) / 1000000000 := Int.tdiv_eq_ediv_of_nonneg (by omega)
      have hq : 0 ≤ (a.getD i 0 + 1000000000 - b.getD i 0 - h) / 1000000000 ∧ (a.getD i 0 + 1000000000 - b.getD i 0 - h) / 1000000000 ≤ 1 := by omega
      rw [t1, t2, u64_id hq.1 (by omega), e2, u64_id hh'.1 (by omega)]
    simp only [minusS]
    split
    · rename_i hneg
      exact go (a.getD i 0 - b.getD i 0 - h + G) 1 (by rw [hG]; omega) (by omega) (by omega)
    · rename_i hneg
      exact go (a.getD i 0 - b.getD i 0 - h) 0 (by omega) (by omega) (by omega)
theorem minus_prog_ev (a b : List Int) (ha : OkB G a) (hb : OkB G b) (hla : a.length ≤ 100000000) : Ev (fun k => number_minus.f k a b) (minusS G a b a.length 0 0) := by
  have := minus_l0 a b ha hb (by omega) _ 0 rfl (Nat.zero_le _) [] 0 rfl (by omega)
  rw [List.nil_append] at this
  refine Ev.congr (fun k => ?_) this
  simp only [number_minus.f]
  rfl

/-- A value with its sign. -/
def sv (B : Int) (l : List Int) (neg : Bool) : Int := if neg = true then -(vB B l) else vB B l
theorem add_prog_ev (a b : List Int) (na nb : Bool) (ha : OkB G a) (hb : OkB G b) (hla : a.length ≤ 100000) (hlb : b.length ≤ 100000) :
    ∃ r nr, Ev (fun k => number_add.f k a na b nb) (r, nr) ∧ OkB G r ∧ sv G r nr = sv G a na + sv G b nb ∧ r.length ≤ max a.length b.length + 1 := by
  by_cases hs : na = nb
  · subst hs
    refine ⟨plusS G a b (max a.length b.length + 1) 0 0, na, ?_, plusS_ok G (by decide) a b _ 0 0, ?_, by rw [plusS_len]; omega⟩
    · refine Ev.congr (fun k => by simp only [number_add.f]; rw [if_pos (beq_self_eq_true _)]) (Ev.bind (plus_prog_ev a b ha hb (by omega) (by omega)) (Ev.now _))
    · have := plusS_val G (by decide) a b ha hb (max a.length b.length + 1) 0 0 (by omega) (by omega) (by omega) (fun h => by omega)
      rw [List.drop_zero, List.drop_zero] at this
      unfold sv
      rw [this]
      split <;> omega
  · have hb' : (na == nb) = false := by simpa using hs
    have hsz := size_prog_ev a b ha hb (by omega) (by omega)
    by_cases hc : vB G b ≤ vB G a
    · refine ⟨minusS G a b a.length 0 0, na, ?_, minusS_ok G (by decide) a b ha hb _ 0 0 (by omega), ?_, by rw [minusS_len]; omega⟩
      · refine Ev.congr (fun k => by simp only [number_add.f]; rw [if_neg (by simp [hs])]) (Ev.bind hsz ?_)
        refine Ev.congr (fun k => if_pos ?_) (Ev.bind (minus_prog_ev a b ha hb (by omega)) (Ev.now _))
        unfold cmpI; rw [if_neg (by omega)]; split <;> omega
      · unfold sv
        rw [minus_val G (by decide) a b ha hb _ (Nat.le_refl _) hc]
        cases na <;> cases nb <;> simp at hs ⊢ <;> omega
    · refine ⟨minusS G b a b.length 0 0, nb, ?_, minusS_ok G (by decide) b a hb ha _ 0 0 (by omega), ?_, by rw [minusS_len]; omega⟩
      · refine Ev.congr (fun k => by simp only [number_add.f]; rw [if_neg (by simp [hs])]) (Ev.bind hsz ?_)
        refine Ev.congr (fun k => if_neg ?_) (Ev.bind (minus_prog_ev b a hb ha (by omega)) (Ev.now _))
        unfold cmpI; rw [if_pos (by omega)]; omega
      · unfold sv
        rw [minus_val G (by decide) b a hb ha _ (Nat.le_refl _) (by omega)]
        cases na <;> cases nb <;> simp at hs ⊢ <;> omega
end Go.Proofs.YtlnneellihkdkaaDoor.D
