/- The program's limbs of a text, trimmed; plain. -/
import Derived.Test.YtlnneellihkdkaaDoorHNumA
namespace Go.Proofs.YtlnneellihkdkaaDoor.D
open Go.RowKit Go.Proofs.YtlnneellihkdkaaDoorW.PrintWords Go.Proofs.YtlnneellihkdkaaDoorW.PrintLast Go.Proofs.YtlnneellihkdkaaDoorW.PrintMore
set_option linter.unusedVariables false
set_option linter.unusedSimpArgs false

/-! ### noughts above taken away -/
def trimN : Nat → List Int → List Int
  | 0, l => l
  | n + 1, l => if l.length = n + 1 ∧ l.getD n 0 = 0 then trimN n (l.take n) else l
def trimL (l : List Int) : List Int := trimN l.length l
theorem trimN_all (B : Int) (n : Nat) : ∀ l : List Int, l.length = n → vB B (trimN n l) = vB B l ∧ (OkB B l → OkB B (trimN n l)) ∧ (trimN n l).length ≤ l.length ∧ (trimN n l ≠ [] → (trimN n l).getD ((trimN n l).length - 1) 0 ≠ 0) := by
  induction n with
  | zero => intro l hl; obtain rfl := List.length_eq_zero_iff.1 hl; simp [trimN]
  | succ n ih =>
    intro l hl
    simp only [trimN]
    split
    · rename_i h
      obtain ⟨h1, h2, h3, h4⟩ := ih (l.take n) (by rw [List.length_take]; omega)
      refine ⟨?_, fun ho => h2 (OkB_take ho n), by rw [List.length_take] at h3; omega, h4⟩
      have := vB_take B l n
      rw [List.take_of_length_le (by omega), h.2, Int.mul_zero, Int.add_zero] at this
      rw [h1, this]
    · rename_i h
      refine ⟨rfl, fun h => h, Nat.le_refl _, fun _ e => h ⟨hl, by rw [hl] at e; exact e⟩⟩
theorem trim_ev (neg : Bool) (n : Nat) : ∀ l : List Int, l.length = n → n ≤ 1000000000 → Ev (fun k => number_value_trim.l0 k l neg) (trimN n l, if trimN n l = [] then false else neg) := by
  induction n with
  | zero =>
    intro l hl _
    obtain rfl := List.length_eq_zero_iff.1 hl
    refine Ev.step (f := fun _ => some ([], false)) (fun k => ?_) (by simpa [trimN] using Ev.now (([] : List Int), false))
    simp only [number_value_trim.l0]
    rw [if_neg (by simp), if_pos (by simp)]
  | succ n ih =>
    intro l hl hn
    have hw : wrap64 ((l.length : Int) - 1) = (n : Int) := by unfold wrap64; omega
    have hrd : rd l (n : Int) = l.getD n 0 := by simp [rd]
    simp only [trimN]
    split
    · rename_i h
      refine Ev.step (fun k => ?_) (ih (l.take n) (by rw [List.length_take]; omega) (by omega))
      simp only [number_value_trim.l0]
      rw [if_pos (by omega), hw, if_pos (by omega), if_pos (by omega), hrd, if_pos h.2, if_pos (by omega), Int.toNat_natCast]
    · rename_i h
      have hne : l ≠ [] := by rintro rfl; simp at hl
      rw [if_neg hne]
      refine Ev.step (f := fun _ => some (l, neg)) (fun k => ?_) (Ev.now _)
      simp only [number_value_trim.l0]
      rw [if_pos (by omega), hw, if_pos (by omega), if_pos (by omega), hrd, if_neg (fun e => h ⟨hl, e⟩), if_neg (by omega)]
def trimP (l : List Int) (neg : Bool) : List Int × Bool := (trimL l, if trimL l = [] then false else neg)
theorem trim_prog_ev (l : List Int) (neg : Bool) (h : l.length ≤ 1000000000) : Ev (fun k => number_value_trim.f k l neg) (trimP l neg) :=
  Ev.congr (fun k => by simp only [number_value_trim.f]) (trim_ev neg l.length l rfl h)

/-! ### limbs of digits -/
def chunks : Nat → List UInt8 → List Int
  | 0, _ => []
  | n + 1, d => if d = [] then [] else (N.dv (d.drop (d.length - 9)) : Int) :: chunks n (d.take (d.length - 9))
theorem dv_app (a b : List UInt8) : N.dv (a ++ b) = N.dv a * 10 ^ b.length + N.dv b := by
  have : N.dv (a ++ b) = N.dvF (N.dv a) b := by unfold N.dv N.dvF; rw [List.foldl_append]
  rw [this, N.dvF_eq]
theorem chunks_val (n : Nat) : ∀ d : List UInt8, d.length ≤ n → d.all N.digU = true → vB G (chunks n d) = (N.dv d : Int) ∧ OkB G (chunks n d) ∧ (chunks n d).length ≤ d.length := by
  induction n with
  | zero => intro d hl _; obtain rfl := List.length_eq_zero_iff.1 (by omega : d.length = 0); exact ⟨rfl, fun x hx => by simp [chunks] at hx, by simp [chunks]⟩
  | succ n ih =>
    intro d hl ha
    simp only [chunks]
    split
    · rename_i h; subst h; exact ⟨rfl, fun x hx => by simp at hx, by simp⟩
    · rename_i h
      have hpos : 0 < d.length := List.length_pos_iff.2 h
      have hs : d = d.take (d.length - 9) ++ d.drop (d.length - 9) := (List.take_append_drop _ _).symm
      have ha' := ha
      rw [hs, List.all_append, Bool.and_eq_true] at ha'
      obtain ⟨h1, h2, h3⟩ := ih (d.take (d.length - 9)) (by rw [List.length_take]; omega) ha'.1
      have hlt := N.dv_lt _ ha'.2
      have hdl : (d.drop (d.length - 9)).length ≤ 9 := by rw [List.length_drop]; omega
      have hp : (10 : Nat) ^ (d.drop (d.length - 9)).length ≤ 10 ^ 9 := Nat.pow_le_pow_right (by omega) hdl
      have hG : G = 1000000000 := rfl
      have h9 : (10 : Nat) ^ 9 = 1000000000 := by decide
      refine ⟨?_, ?_, by rw [List.length_cons]; rw [List.length_take] at h3; omega⟩
      · rw [vB, h1]
        have hv := dv_app (d.take (d.length - 9)) (d.drop (d.length - 9))
        rw [← hs] at hv
        by_cases h10 : 9 ≤ d.length
        · rw [show (d.drop (d.length - 9)).length = 9 by rw [List.length_drop]; omega, h9] at hv
          rw [hv, hG]; omega
        · have : d.take (d.length - 9) = [] := by rw [show d.length - 9 = 0 by omega]; rfl
          rw [this] at hv ⊢
          have e0 : N.dv [] = 0 := rfl
          rw [e0] at hv ⊢
          rw [hv]; omega
      · intro x hx
        rcases List.mem_cons.1 hx with rfl | hx
        · rw [hG]; omega
        · exact h2 x hx
theorem atoi_digits {l : List UInt8} (hne : l ≠ []) (ha : l.all N.digU = true) (hv : N.dv l < 9223372036854775808) : Lib.atoiAll l = .ok (N.dv l : Int) := by
  have hp := N.parse_digits l ha 0 (by omega)
  have hm : Lib.parseMag l = Lib.parseUint10 0 l := by unfold Lib.parseMag; rw [if_neg hne]
  cases l with
  | nil => exact absurd rfl hne
  | cons c r =>
    have hc : 48 ≤ c.toNat ∧ c.toNat ≤ 57 := by
      simp only [List.all_cons, Bool.and_eq_true] at ha
      simpa [N.digU] using ha.1
    have h1 : ¬ (c.toNat = 43 ∨ c.toNat = 45) := by omega
    have h2 : ¬ c.toNat = 45 := by omega
    have hp' : Lib.parseUint10 0 (c :: r) = .ok (N.dv (c :: r)) := by
      rw [hp]
      exact if_pos (show N.dv (c :: r) < 18446744073709551616 by omega)
    have h3 : ¬ c.toNat = 43 := by omega
    simp only [Lib.atoiAll, h2, h3, or_self, not_false_eq_true, true_and, false_and, if_false]
    rw [hm, hp']
    exact if_neg (by omega)
theorem take_ba (s : ByteArray) (n : Nat) : (s.extract 0 n).data.toList = s.data.toList.take n := by
  rw [Lib.extract_data, List.drop_zero, Nat.sub_zero]

theorem parse_l0 (neg : Bool) (n : Nat) : ∀ t : ByteArray, t.data.toList.length ≤ n → t.data.toList.length ≤ 1000 → t.data.toList.all N.digU = true → ∀ acc : List Int, acc.length + t.data.toList.length ≤ 1000 →
    Ev (fun k => number_parse.l0 k t acc neg) (trimP (acc ++ chunks n t.data.toList) neg) := by
  induction n with
  | zero =>
    intro t hl _ _ acc ha
    have hsz := size_u t
    have h0 : t.data.toList = [] := List.length_eq_zero_iff.1 (by omega)
    simp only [chunks, List.append_nil]
    refine Ev.step (f := fun k => (number_value_trim.f k acc neg).bind fun bt213 => some (bt213.1, bt213.2)) (fun k => ?_) (Ev.bind (trim_prog_ev acc neg (by omega)) (Ev.now _))
    simp only [number_parse.l0]
    rw [if_neg (by omega)]
  | succ n ih =>
    intro t hl hm hd acc ha
    have hsz := size_u t
    simp only [chunks]
    by_cases h : t.data.toList = []
    · rw [if_pos h, List.append_nil]
      refine Ev.step (f := fun k => (number_value_trim.f k acc neg).bind fun bt213 => some (bt213.1, bt213.2)) (fun k => ?_) (Ev.bind (trim_prog_ev acc neg (by omega)) (Ev.now _))
      simp only [number_parse.l0]
      rw [if_neg (by rw [hsz, h]; simp)]
    · rw [if_neg h]
      have hpos : 0 < t.data.toList.length := List.length_pos_iff.2 h
      have hmx : mx 0 (wrap64 ((t.size : Int) - 9)) = ((t.data.toList.length - 9 : Nat) : Int) := by
        rw [hsz, show wrap64 (((t.data.toList.length : Nat) : Int) - 9) = (t.data.toList.length : Int) - 9 from by unfold wrap64; omega]
        unfold mx; split <;> omega
      have hall := hd
      rw [show t.data.toList = t.data.toList.take (t.data.toList.length - 9) ++ t.data.toList.drop (t.data.toList.length - 9) from (List.take_append_drop _ _).symm, List.all_append, Bool.and_eq_true] at hall
      have hdl : (t.data.toList.drop (t.data.toList.length - 9)).length ≤ 9 := by rw [List.length_drop]; omega
      have hlt := N.dv_lt _ hall.2
      have hp : (10 : Nat) ^ (t.data.toList.drop (t.data.toList.length - 9)).length ≤ 10 ^ 9 := Nat.pow_le_pow_right (by omega) hdl
      have h9 : (10 : Nat) ^ 9 = 1000000000 := by decide
      have hat := atoi_digits (l := t.data.toList.drop (t.data.toList.length - 9)) (by
        intro e
        have := congrArg List.length e
        rw [List.length_drop] at this
        simp at this; omega) hall.2 (by omega)
      have e1 : (t.extract (t.data.toList.length - 9) t.size).data.toList = t.data.toList.drop (t.data.toList.length - 9) := Lib.extract_to_end t _
      have e2 : (t.extract 0 (t.data.toList.length - 9)).data.toList = t.data.toList.take (t.data.toList.length - 9) := take_ba t _
      have hA : strconv_Atoi_29.f (t.extract (t.data.toList.length - 9) t.size) = some ((N.dv (t.data.toList.drop (t.data.toList.length - 9)) : Int), none) := by
        unfold strconv_Atoi_29.f
        rw [if_pos (by rw [size_u, e1]; omega), e1, hat]
      have := ih (t.extract 0 (t.data.toList.length - 9)) (by rw [e2, List.length_take]; omega) (by rw [e2, List.length_take]; omega) (by rw [e2]; exact hall.1) (acc ++ [(N.dv (t.data.toList.drop (t.data.toList.length - 9)) : Int)]) (by rw [e2, List.length_append, List.length_take, List.length_singleton]; omega)
      rw [e2, List.append_assoc, List.singleton_append] at this
      refine Ev.step (fun k => ?_) this
      simp only [number_parse.l0]
      rw [if_pos (by omega), hmx, if_pos (by omega), if_pos (by omega), Int.toNat_natCast, hA]
      simp only [Option.bind_some]
      rw [if_pos (by omega), u64_id (by omega) (by omega)]

/-- A number's limbs. -/
def limbsU (l : List UInt8) : List Int := trimL (chunks 1000 (N.digits l))
theorem limbs_val {l : List UInt8} (h : N.canU l = true) : vB G (limbsU l) = (N.dv (N.digits l) : Int) ∧ OkB G (limbsU l) ∧ (limbsU l).length ≤ 200 ∧ (limbsU l ≠ [] → (limbsU l).getD ((limbsU l).length - 1) 0 ≠ 0) := by
  obtain ⟨h1, h2, h3, h4⟩ := N.can_open h
  obtain ⟨c1, c2, c3⟩ := chunks_val 1000 (N.digits l) (by omega) h3
  obtain ⟨t1, t2, t3, t4⟩ := trimN_all G _ (chunks 1000 (N.digits l)) rfl
  exact ⟨t1.trans c1, t2 c2, by show (trimN _ _).length ≤ 200; omega, t4⟩
theorem vB_nil_iff (B : Int) (l : List Int) (h : vB B l ≠ 0) : l ≠ [] := by rintro rfl; exact h rfl
theorem parse_prog_ev (s : ByteArray) (hs : s.size ≤ 9223372036854775807) (h : N.canU s.data.toList = true) : Ev (fun k => number_parse.f k s) (limbsU s.data.toList, negU s.data.toList) := by
  obtain ⟨h1, h2, h3, h4⟩ := N.can_open h
  obtain ⟨l1, l2, l3, l4⟩ := limbs_val h
  obtain ⟨vn, vp⟩ := val_neg h
  obtain ⟨t, ht, htl, htb, heq⟩ := trim_minus s
  have hneg : (bytesOf s).head? = some 45 ↔ negU s.data.toList = true := by
    have := head_byte s.data.toList 45
    rw [show ((45 : UInt8).toNat : Int) = 45 from rfl] at this
    rw [bytes_map]
    unfold negU
    rw [← this, beq_iff_eq]
  have htd : t.data.toList = N.digits s.data.toList := by
    have hb : (t.data.toList.map fun b => (b.toNat : Int)) = (N.digits s.data.toList).map fun b => (b.toNat : Int) := by
      rw [← bytes_map, htb, bytes_map]
      unfold N.digits
      by_cases hm : s.data.toList.head? = some 45
      · rw [if_pos hm, if_pos (by have := head_byte s.data.toList 45; rw [show ((45 : UInt8).toNat : Int) = 45 from rfl] at this; rw [this]; simpa using hm), List.map_tail]
      · rw [if_neg hm, if_neg (by have := head_byte s.data.toList 45; rw [show ((45 : UInt8).toNat : Int) = 45 from rfl] at this; rw [this]; simpa using hm)]
    exact bytes_inj hb
  have hflag : (t.toList != s.toList) = negU s.data.toList := by
    cases hn : negU s.data.toList with
    | true =>
      have := hneg.2 hn
      have h5 : ¬ t.toList = s.toList := fun e => (heq.1 e) this
      simpa using h5
    | false =>
      have : ¬ (bytesOf s).head? = some 45 := fun e => by rw [hneg.1 e] at hn; cases hn
      have h5 := heq.2 this
      simp [h5]
  simp only [number_parse.f]
  refine Ev.bind (can_prog_u s hs) ?_
  rw [h]
  refine Ev.congr (fun k => if_pos rfl) ?_
  simp only [ht, Option.bind_some, hflag]
  have := parse_l0 (negU s.data.toList) 1000 t (by rw [htd]; omega) (by rw [htd]; omega) (by rw [htd]; exact h3) [] (by rw [htd]; simp; omega)
  rw [List.nil_append, htd] at this
  have hlast : (if trimL (chunks 1000 (N.digits s.data.toList)) = [] then false else negU s.data.toList) = negU s.data.toList := by
    split
    · rename_i he
      cases hn : negU s.data.toList with
      | false => rfl
      | true =>
        have hp := (vn hn).2
        have : limbsU s.data.toList ≠ [] := vB_nil_iff G _ (by rw [l1]; omega)
        exact absurd he this
    · rfl
  unfold trimP at this
  rw [hlast] at this
  exact this
end Go.Proofs.YtlnneellihkdkaaDoor.D
