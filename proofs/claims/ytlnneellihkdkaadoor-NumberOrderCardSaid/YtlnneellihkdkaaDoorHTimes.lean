/- number.times: the product of two rows of limbs. -/
import Derived.Test.YtlnneellihkdkaaDoorHNumA
namespace Go.Proofs.YtlnneellihkdkaaDoor.D
open Go.RowKit Go.Proofs.YtlnneellihkdkaaDoorW.PrintWords Go.Proofs.YtlnneellihkdkaaDoorW.PrintLast Go.Proofs.YtlnneellihkdkaaDoorW.PrintMore
set_option linter.unusedVariables false
set_option linter.unusedSimpArgs false

theorem vB_set (B : Int) (l : List Int) : ∀ (j : Nat) (v : Int), j < l.length → vB B (l.set j v) = vB B l + B ^ j * (v - l.getD j 0) := by
  induction l with
  | nil => intro j v h; simp at h
  | cons x l ih =>
    intro j v h
    cases j with
    | zero => simp [vB]; omega
    | succ j =>
      have := ih j v (by simpa using h)
      rw [List.set_cons_succ, vB, vB, this, Int.mul_add, List.getD_cons_succ, Int.pow_succ]
      rw [show B * (B ^ j * (v - l.getD j 0)) = B ^ j * B * (v - l.getD j 0) by ac_rfl]
      omega
theorem OkB_set {B : Int} {l : List Int} (h : OkB B l) (j : Nat) {v : Int} (hv : 0 ≤ v ∧ v < B) : OkB B (l.set j v) := fun x hx => by
  rcases List.mem_or_eq_of_mem_set hx with h' | rfl
  · exact h x h'
  · exact hv
theorem vB_zeros (B : Int) (n : Nat) : vB B (List.replicate n 0) = 0 := by
  induction n with
  | zero => rfl
  | succ n ih => rw [List.replicate_succ, vB, ih]; simp
theorem mul_step (B P o x bk c D V n : Int) (hn : n = o + x * bk + c) :
    V + P * (n % B - o) + P * B * (n / B) + x * (P * B) * D = V + P * c + x * P * (bk + B * D) := by
  have h := Int.emod_add_mul_ediv n B
  generalize n % B = m at *
  generalize n / B = q at *
  have e : P * m + P * (B * q) = P * o + P * (x * bk) + P * c := by rw [← Int.mul_add, h, hn, Int.mul_add, Int.mul_add]
  have e2 : x * P * (bk + B * D) = P * (x * bk) + x * (P * B) * D := by
    rw [Int.mul_add, show x * P * bk = P * (x * bk) by ac_rfl, show x * P * (B * D) = x * (P * B) * D by ac_rfl]
  rw [e2, Int.mul_sub, Int.mul_assoc P B q]
  omega
theorem mul_small {a x : Int} {k : Int} (ha : 0 ≤ a ∧ a ≤ k) (hx : 0 ≤ x ∧ x ≤ k) : 0 ≤ a * x ∧ a * x ≤ k * k :=
  ⟨Int.mul_nonneg ha.1 hx.1, Int.mul_le_mul ha.2 hx.2 hx.1 (by omega)⟩

theorem times_l1 (a b : List Int) (ha : OkB G a) (hb : OkB G b) (N i : Nat) (x : Int) (hx : 0 ≤ x ∧ x < G) (hN : N = a.length + b.length + 1) (hi : i < a.length) (hsm : N ≤ 1000000) (T : Int) (hT : T < G ^ N) (R : List Int → Prop)
    (hnext : ∀ out : List Int, OkB G out → out.length = N → vB G out = T → ∃ r, Ev (fun K => number_times.l0 K b out a (a.length : Int) ((i + 1 : Nat) : Int)) r ∧ R r)
    (m : Nat) : ∀ (k : Nat) (out : List Int) (c : Int), N - (i + k) = m → i + k ≤ N → OkB G out → out.length = N → 0 ≤ c ∧ c < G → vB G out + G ^ (i + k) * c + x * G ^ (i + k) * vB G (b.drop k) = T →
      ∃ r, Ev (fun K => number_times.l1 K b out (i : Int) x c (k : Int) a (a.length : Int) (i : Int)) r ∧ R r := by
  have hG : G = 1000000000 := rfl
  induction m with
  | zero =>
    intro k out c hm hk hok hl hc hv
    have hkb : b.length ≤ k := by omega
    have hc0 : c = 0 := by
      have h1 := vB_bounds G (by decide) out hok
      rw [List.drop_eq_nil_of_le hkb] at hv
      simp only [vB, Int.mul_zero, Int.add_zero] at hv
      have hP := pow_ge1 G (by decide) N
      have hle : i + k = N := by omega
      rw [hle] at hv
      rcases Int.lt_or_le 0 c with h | h
      · have : G ^ N * 1 ≤ G ^ N * c := Int.mul_le_mul_of_nonneg_left (by omega) (by omega)
        omega
      · omega
    subst hc0
    rw [List.drop_eq_nil_of_le hkb] at hv
    simp only [vB, Int.mul_zero, Int.add_zero] at hv
    obtain ⟨r, hr, hR⟩ := hnext out hok hl hv
    refine ⟨r, Ev.step (fun K => ?_) hr, hR⟩
    simp only [number_times.l1]
    rw [if_neg (by omega), if_neg (by omega), show wrap64 ((i : Int) + 1) = ((i + 1 : Nat) : Int) from by unfold wrap64; omega]
  | succ m ih =>
    intro k out c hm hk hok hl hc hv
    have hoj := getD_ok (by decide : 1 ≤ G) hok (i + k)
    have hbk := getD_ok (by decide : 1 ≤ G) hb k
    have hxb := mul_small (a := x) (x := b.getD k 0) (k := 999999999) (by omega) (by omega)
    obtain ⟨n, hn⟩ : ∃ n, n = out.getD (i + k) 0 + x * b.getD k 0 + c := ⟨_, rfl⟩
    have hn0 : 0 ≤ n ∧ n < 1000000000 * 1000000000 := by omega
    have hq : 0 ≤ n / G ∧ n / G < G := by rw [hG]; omega
    have hr : 0 ≤ n % G ∧ n % G < G := by rw [hG]; omega
    have hP : G ^ (i + (k + 1)) = G ^ (i + k) * G := by rw [show i + (k + 1) = i + k + 1 by omega, Int.pow_succ]
    have KEY := Aside0.mk (show vB G (out.set (i + k) (n % G)) + G ^ (i + (k + 1)) * (n / G) + x * G ^ (i + (k + 1)) * vB G (b.drop (k + 1)) = T by
      rw [vB_set G out _ _ (by omega), hP, mul_step G (G ^ (i + k)) _ x _ c _ _ n hn, ← vB_drop, hv])
    clear hP
    have E3 := Aside0.mk (show IntKind.u64.wrap (IntKind.u64.wrap (rd out ((i + k : Nat) : Int) + IntKind.u64.wrap (x * b.getD k 0)) + c) = n by
      rw [show rd out ((i + k : Nat) : Int) = out.getD (i + k) 0 from by unfold rd; rw [Int.toNat_natCast]]
      rw [u64_id (x := x * b.getD k 0) (by omega) (by omega), u64_id (x := out.getD (i + k) 0 + x * b.getD k 0) (by omega) (by omega), u64_id (by omega) (by omega), hn])
    have T1 := Aside0.mk (show Int.tmod n 1000000000 = n % G from Int.tmod_eq_emod_of_nonneg hn0.1)
    have T2 := Aside0.mk (show Int.tdiv n 1000000000 = n / G from Int.tdiv_eq_ediv_of_nonneg hn0.1)
    have W2 := Aside0.mk (u64_id hq.1 (by omega))
    have HQ := Aside0.mk hq
    have HR := Aside0.mk hr
    have HV := Aside0.mk hv
    clear hq hr hv hxb hoj hbk hn hn0
    have E1 := Aside0.mk (show wrap64 ((i : Int) + (k : Int)) = ((i + k : Nat) : Int) by unfold wrap64; omega)
    have E2 := Aside0.mk (show wrap64 ((k : Int) + 1) = ((k + 1 : Nat) : Int) by unfold wrap64; omega)
    have EI := Aside0.mk (show wrap64 ((i : Int) + 1) = ((i + 1 : Nat) : Int) by unfold wrap64; omega)
    by_cases hkb : k < b.length
    · obtain ⟨r, hr', hR⟩ := ih (k + 1) _ _ (by omega) (by omega) (OkB_set hok _ HR.out) (by simp [hl]) HQ.out KEY.out
      refine ⟨r, Ev.step (fun K => ?_) hr', hR⟩
      simp only [number_times.l1]
      rw [if_pos (by omega), E1.out, if_pos (by omega), if_pos (by omega)]
      simp only [limb_nat, Option.bind_some]
      rw [E3.out, T1.out, T2.out, W2.out, E2.out, Int.toNat_natCast]
    · by_cases hc0 : 0 < c
      · obtain ⟨r, hr', hR⟩ := ih (k + 1) _ _ (by omega) (by omega) (OkB_set hok _ HR.out) (by simp [hl]) HQ.out KEY.out
        refine ⟨r, Ev.step (fun K => ?_) hr', hR⟩
        simp only [number_times.l1]
        rw [if_neg (by omega), if_pos (by omega), E1.out, if_pos (by omega), if_pos (by omega)]
        simp only [limb_nat, Option.bind_some]
        rw [E3.out, T1.out, T2.out, W2.out, E2.out, Int.toNat_natCast]
      · obtain rfl : c = 0 := by omega
        have hv := HV.out
        clear HV
        rw [List.drop_eq_nil_of_le (by omega)] at hv
        simp only [vB, Int.mul_zero, Int.add_zero] at hv
        obtain ⟨r, hr', hR⟩ := hnext out hok hl hv
        refine ⟨r, Ev.step (fun K => ?_) hr', hR⟩
        simp only [number_times.l1]
        rw [if_neg (by omega), if_neg (by omega), EI.out]

theorem times_l0 (a b : List Int) (ha : OkB G a) (hb : OkB G b) (N : Nat) (hN : N = a.length + b.length + 1) (hsm : N ≤ 1000000) (d : Nat) : ∀ (i : Nat) (out : List Int), a.length - i = d → i ≤ a.length → OkB G out → out.length = N → vB G out = vB G (a.take i) * vB G b →
    ∃ r, Ev (fun K => number_times.l0 K b out a (a.length : Int) (i : Int)) r ∧ (OkB G r ∧ r.length = N ∧ vB G r = vB G a * vB G b) := by
  induction d with
  | zero =>
    intro i out hd hi hok hl hv
    refine ⟨out, Ev.step (f := fun _ => some out) (fun k => ?_) (Ev.now out), hok, hl, ?_⟩
    · simp only [number_times.l0]
      rw [if_neg (by omega)]
    · rw [hv, List.take_of_length_le (by omega)]
  | succ d ih =>
    intro i out hd hi hok hl hv
    have hx := getD_ok (by decide : 1 ≤ G) ha i
    have hT : vB G (a.take (i + 1)) * vB G b = vB G out + G ^ (i + 0) * 0 + a.getD i 0 * G ^ (i + 0) * vB G (b.drop 0) := by
      rw [hv, vB_take, Int.add_mul, List.drop_zero, Nat.add_zero, Int.mul_zero, Int.add_zero, Int.mul_comm (a.getD i 0)]
    have hlt : vB G (a.take (i + 1)) * vB G b < G ^ N := by
      have h1 := vB_bounds G (by decide) (a.take (i + 1)) (OkB_take ha _)
      have h2 := vB_bounds G (by decide) b hb
      have hl1 : (a.take (i + 1)).length = i + 1 := by rw [List.length_take]; omega
      rw [hl1] at h1
      have p1 := pow_ge1 G (by decide) (i + 1)
      have p2 := pow_ge1 G (by decide) b.length
      have m1 : vB G (a.take (i + 1)) * vB G b ≤ G ^ (i + 1) * vB G b := Int.mul_le_mul_of_nonneg_right (by omega) h2.1
      have m2 : G ^ (i + 1) * (vB G b + 1) ≤ G ^ (i + 1) * G ^ b.length := Int.mul_le_mul_of_nonneg_left (by omega) (by omega)
      rw [Int.mul_add, Int.mul_one, ← Int.pow_add] at m2
      have := pow_mono G (by decide) (m := i + 1 + b.length) (n := N) (by omega)
      omega
    obtain ⟨r, hr, hR⟩ := times_l1 a b ha hb N i (a.getD i 0) hx hN (by omega) hsm _ hlt (fun r => OkB G r ∧ r.length = N ∧ vB G r = vB G a * vB G b)
      (fun out' h1 h2 h3 => ih (i + 1) out' (by omega) (by omega) h1 h2 h3) (N - (i + 0)) 0 out 0 rfl (by omega) hok hl (by decide) hT.symm
    refine ⟨r, Ev.step (fun K => ?_) hr, hR⟩
    simp only [number_times.l0]
    rw [if_pos (by omega), if_pos (by omega), if_pos (by omega), show rd a (i : Int) = a.getD i 0 from by simp [rd]]
    rfl
theorem times_prog_ev (a b : List Int) (ha : OkB G a) (hb : OkB G b) (hla : a.length ≤ 100000) (hlb : b.length ≤ 100000) :
    ∃ r, Ev (fun k => number_times.f k a b) r ∧ OkB G r ∧ r.length = a.length + b.length + 1 ∧ vB G r = vB G a * vB G b := by
  obtain ⟨r, hr, h1, h2, h3⟩ := times_l0 a b ha hb _ rfl (by omega) a.length 0 (List.replicate (a.length + b.length + 1) 0) rfl (Nat.zero_le _) (fun x hx => by rw [(List.mem_replicate.1 hx).2]; decide) (by simp) (by rw [vB_zeros]; simp [vB])
  refine ⟨r, Ev.congr (fun k => ?_) hr, h1, h2, h3⟩
  simp only [number_times.f]
  rw [show wrap64 (wrap64 ((a.length : Int) + (b.length : Int)) + 1) = ((a.length + b.length + 1 : Nat) : Int) from by unfold wrap64; omega, if_pos (by omega), Int.toNat_natCast, if_pos (by omega)]
  rfl
end Go.Proofs.YtlnneellihkdkaaDoor.D
