/- The reference's Mul and Sub whole. -/
import Derived.Test.YtlnneellihkdkaaDoorDx10
import Derived.Test.YtlnneellihkdkaaDoorDx20
import Derived.Test.YtlnneellihkdkaaDoorDx21
import Derived.Test.YtlnneellihkdkaaDoorDx22
import Derived.Test.YtlnneellihkdkaaDoorDx23
import Derived.Test.YtlnneellihkdkaaDoorHRefC
namespace Go.Proofs.YtlnneellihkdkaaDoor.D
open Go Go.Proofs Go.RowKit Go.Proofs.YtlnneellihkdkaaDoorW.PrintWords Go.Proofs.YtlnneellihkdkaaDoorW.PrintLast Go.Proofs.YtlnneellihkdkaaDoorW.PrintMore
set_option linter.unusedVariables false
set_option linter.unusedSimpArgs false

theorem getD_set (l : List Int) (i j : Nat) (v : Int) (hi : i < l.length) : (l.set i v).getD j 0 = if i = j then v else l.getD j 0 := by
  simp only [List.getD_eq_getElem?_getD, List.getElem?_set]
  by_cases h : i = j
  · subst h; simp [hi]
  · simp [h]
theorem okB_of_getD {B : Int} {l : List Int} (h : ∀ j, j < l.length → 0 ≤ l.getD j 0 ∧ l.getD j 0 < B) : OkB B l := fun x hx => by
  obtain ⟨j, hj, rfl⟩ := List.mem_iff_getElem.1 hx
  have := h j hj
  rwa [List.getD_eq_getElem?_getD, List.getElem?_eq_getElem hj, Option.getD_some] at this
theorem rd_nat (l : List Int) (n : Nat) : rd l (n : Int) = l.getD n 0 := by unfold rd; rw [Int.toNat_natCast]

/-- the last round's carry is spent: the last place is a digit too -/
theorem last_digit {out : List Int} {N : Nat} (hl : out.length = N) (hN : 1 ≤ N) (hlow : ∀ j, j < N - 1 → 0 ≤ out.getD j 0 ∧ out.getD j 0 < 10) (h0 : 0 ≤ out.getD (N - 1) 0) (hT : vB 10 out < 10 ^ N) : OkB 10 out := by
  refine okB_of_getD fun j hj => ?_
  by_cases h : j < N - 1
  · exact hlow j h
  · obtain rfl : j = N - 1 := by omega
    refine ⟨h0, ?_⟩
    have hs := vB_take 10 out (N - 1)
    rw [show N - 1 + 1 = N by omega, List.take_of_length_le (by omega)] at hs
    have hok : OkB 10 (out.take (N - 1)) := okB_of_getD fun j hj => by
      rw [List.length_take] at hj
      have := hlow j (by omega)
      rwa [List.getD_eq_getElem?_getD, List.getElem?_take, if_pos (by omega), ← List.getD_eq_getElem?_getD]
    have hb := vB_bounds 10 (by decide) _ hok
    have hp : (10 : Int) ^ N = 10 ^ (N - 1) * 10 := by rw [← Int.pow_succ]; congr 1; omega
    have hp1 := pow_ge1 10 (by decide) (N - 1)
    rcases Int.lt_or_le (out.getD (N - 1) 0) 10 with h | h
    · exact h
    · exfalso
      have : (10 : Int) ^ (N - 1) * 10 ≤ 10 ^ (N - 1) * out.getD (N - 1) 0 := Int.mul_le_mul_of_nonneg_left h (by omega)
      omega

theorem mul_l2 (a b : List Int) (na nb : Bool) (N i : Nat) (hi : i < a.length) (hN : N = a.length + b.length + 1) (hsm : N ≤ 1000000) (T : Int) (hT : T < 10 ^ N) (ans : ByteArray × Int)
    (hnext : ∀ out : List Int, OkB 10 out → out.length = N → vB 10 out = T → Ev (fun K => rostrumref09_Mul.l0 K out a (a.length : Int) ((i + 1 : Nat) : Int) a na b nb) ans)
    (d : Nat) : ∀ (k : Nat) (out : List Int), N - 1 - k = d → k ≤ N - 1 → out.length = N → (∀ j, j < k → 0 ≤ out.getD j 0 ∧ out.getD j 0 < 10) → (0 ≤ out.getD k 0 ∧ out.getD k 0 ≤ 300000) → (∀ j, k < j → 0 ≤ out.getD j 0 ∧ out.getD j 0 ≤ 200000) → vB 10 out = T →
      Ev (fun K => rostrumref09_Mul.l2 K out a (a.length : Int) (i : Int) ((N - 1 : Nat) : Int) (k : Int) a na b nb) ans := by
  induction d with
  | zero =>
    intro k out hd hk hl hlow hmid hhi hv
    obtain rfl : k = N - 1 := by omega
    refine Ev.step (fun K => ?_) (hnext out (last_digit hl (by omega) hlow hmid.1 (by omega)) hl hv)
    simp only [rostrumref09_Mul.l2]
    rw [if_neg (by omega), show wrap64 ((i : Int) + 1) = ((i + 1 : Nat) : Int) from by unfold wrap64; omega]
  | succ d ih =>
    intro k out hd hk hl hlow hmid hhi hv
    have hup := hhi (k + 1) (by omega)
    obtain ⟨o, ho⟩ : ∃ o, o = out.getD k 0 := ⟨_, rfl⟩
    obtain ⟨p, hp⟩ : ∃ p, p = out.getD (k + 1) 0 := ⟨_, rfl⟩
    rw [← ho] at hmid
    rw [← hp] at hup
    have HS := Aside0.mk (show ∀ j, ((out.set (k + 1) (p + o / 10)).set k (o % 10)).getD j 0 = if k = j then o % 10 else if k + 1 = j then p + o / 10 else out.getD j 0 from fun j => by
      rw [getD_set _ _ _ _ (by simp; omega), getD_set _ _ _ _ (by omega)])
    have e := ih (k + 1) ((out.set (k + 1) (p + o / 10)).set k (o % 10)) (by omega) (by omega) (by simp [hl]) (fun j hj => by
        rw [HS.out]
        by_cases h : k = j
        · rw [if_pos h]; omega
        · rw [if_neg h, if_neg (by omega)]; exact hlow j (by omega)) (by
        rw [HS.out, if_neg (by omega), if_pos rfl]; omega) (fun j hj => by
        rw [HS.out, if_neg (by omega), if_neg (by omega)]; exact hhi j (by omega)) (by
        rw [vB_set _ _ _ _ (by simp; omega), vB_set _ _ _ _ (by omega), getD_set _ _ _ _ (by omega), if_neg (by omega), ← ho, ← hp, hv, Int.pow_succ]
        have h10 : o = 10 * (o / 10) + o % 10 := by omega
        have : (10 : Int) ^ k * 10 * (p + o / 10 - p) + 10 ^ k * (o % 10 - o) = 0 := by
          rw [show p + o / 10 - p = o / 10 by omega, show o % 10 - o = -(10 * (o / 10)) by omega, Int.mul_neg, Int.mul_assoc]
          omega
        omega)
    refine Ev.step (fun K => ?_) e
    simp only [rostrumref09_Mul.l2]
    rw [if_pos (by omega), show wrap64 ((k : Int) + 1) = ((k + 1 : Nat) : Int) from by unfold wrap64; omega, if_pos (by omega), if_pos (by omega), if_pos (by omega), if_pos (by omega), rd_nat, rd_nat, ← ho, ← hp,
      show Int.tdiv o 10 = o / 10 from Int.tdiv_eq_ediv_of_nonneg hmid.1, w64_id (x := o / 10) (by omega) (by omega), w64_id (x := p + o / 10) (by omega) (by omega)]
    simp only [Option.bind_some]
    rw [rd_nat, Int.toNat_natCast, Int.toNat_natCast, getD_set _ _ _ _ (by omega), if_neg (by omega), ← ho, show Int.tmod o 10 = o % 10 from Int.tmod_eq_emod_of_nonneg hmid.1]

theorem mul_l1 (a b : List Int) (ha : OkB 10 a) (hb : OkB 10 b) (na nb : Bool) (N i : Nat) (x : Int) (hx : 0 ≤ x ∧ x < 10) (hi : i < a.length) (hN : N = a.length + b.length + 1) (hsm : N ≤ 2000) (T : Int) (hT : T < 10 ^ N) (ans : ByteArray × Int)
    (hnext : ∀ out : List Int, OkB 10 out → out.length = N → vB 10 out = T → Ev (fun K => rostrumref09_Mul.l0 K out a (a.length : Int) ((i + 1 : Nat) : Int) a na b nb) ans)
    (d : Nat) : ∀ (k : Nat) (out : List Int), b.length - k = d → k ≤ b.length → out.length = N → (∀ j, 0 ≤ out.getD j 0 ∧ out.getD j 0 ≤ 9 + 81 * (k : Int)) → vB 10 out + x * 10 ^ (i + k) * vB 10 (b.drop k) = T →
      Ev (fun K => rostrumref09_Mul.l1 K out (i : Int) x a (a.length : Int) (i : Int) b (b.length : Int) (k : Int) a na b nb) ans := by
  induction d with
  | zero =>
    intro k out hd hk hl hbd hv
    obtain rfl : k = b.length := by omega
    rw [List.drop_length] at hv
    simp only [vB, Int.mul_zero, Int.add_zero] at hv
    have h0 := hbd 0
    refine Ev.step (fun K => ?_) (mul_l2 a b na nb N i hi hN (by omega) T hT ans hnext (N - 1 - 0) 0 out rfl (by omega) hl (fun j hj => absurd hj (by omega)) (by omega) (fun j _ => by have := hbd j; omega) hv)
    simp only [rostrumref09_Mul.l1]
    rw [if_neg (by omega), hl, show wrap64 ((N : Int) - 1) = ((N - 1 : Nat) : Int) from by unfold wrap64; omega]
    rfl
  | succ d ih =>
    intro k out hd hk hl hbd hv
    have hy := getD_ok (by decide : (1 : Int) ≤ 10) hb k
    have ho := hbd (i + k)
    have hxy := mul_small (a := x) (x := b.getD k 0) (k := 9) (by omega) (by omega)
    obtain ⟨q, hq⟩ : ∃ q, q = x * b.getD k 0 := ⟨_, rfl⟩
    rw [← hq] at hxy
    have e := ih (k + 1) (out.set (i + k) (out.getD (i + k) 0 + q)) (by omega) (by omega) (by simp [hl]) (fun j => by
        rw [getD_set _ _ _ _ (by omega)]
        have := hbd j
        split <;> omega) (by
        rw [vB_set _ _ _ _ (by omega), show out.getD (i + k) 0 + q - out.getD (i + k) 0 = q by omega, ← hv, vB_drop 10 b k, hq, ← Nat.add_assoc, Int.pow_succ]
        simp only [Int.mul_add, Int.mul_assoc, Int.mul_comm, Int.mul_left_comm, Int.add_assoc])
    have W1 := Aside0.mk (w64_id (x := q) (by omega) (by omega))
    have W2 := Aside0.mk (w64_id (x := out.getD (i + k) 0 + q) (by omega) (by omega))
    refine Ev.step (fun K => ?_) e
    simp only [rostrumref09_Mul.l1]
    rw [if_pos (by omega), if_pos (by omega), if_pos (by omega), show wrap64 ((i : Int) + (k : Int)) = ((i + k : Nat) : Int) from by unfold wrap64; omega, if_pos (by omega), if_pos (by omega), rd_nat, rd_nat, ← hq, W1.out, W2.out, Int.toNat_natCast, show wrap64 ((k : Int) + 1) = ((k + 1 : Nat) : Int) from by unfold wrap64; omega]

theorem mul_l0 (a b : List Int) (ha : OkB 10 a) (hb : OkB 10 b) (na nb : Bool) (N : Nat) (hN : N = a.length + b.length + 1) (hsm : N ≤ 2000) (d : Nat) : ∀ (i : Nat) (out : List Int), a.length - i = d → i ≤ a.length → OkB 10 out → out.length = N → vB 10 out = vB 10 (a.take i) * vB 10 b →
    Ev (fun K => rostrumref09_Mul.l0 K out a (a.length : Int) (i : Int) a na b nb) (ansP (if (na != nb) = true then -(vB 10 a * vB 10 b) else vB 10 a * vB 10 b)) := by
  induction d with
  | zero =>
    intro i out hd hi hok hl hv
    rw [List.take_of_length_le (by omega)] at hv
    have ht := text_ref_ev out (na != nb) hok (by rintro rfl; simp at hl; omega) (by omega)
    have : sv 10 out (na != nb) = if (na != nb) = true then -(vB 10 a * vB 10 b) else vB 10 a * vB 10 b := by unfold sv; rw [hv]
    rw [this] at ht
    refine Ev.step (f := fun K => (rostrumref09_big_text.f K out (na != nb)).bind fun bt => some (bt.1, bt.2)) (fun K => ?_) (Ev.bind ht (Ev.now _))
    simp only [rostrumref09_Mul.l0]
    rw [if_neg (by omega)]
  | succ d ih =>
    intro i out hd hi hok hl hv
    have hx := getD_ok (by decide : (1 : Int) ≤ 10) ha i
    have hT : vB 10 out + a.getD i 0 * 10 ^ (i + 0) * vB 10 (b.drop 0) = vB 10 (a.take (i + 1)) * vB 10 b := by
      rw [hv, vB_take, Int.add_mul, List.drop_zero, Nat.add_zero, Int.mul_comm (a.getD i 0)]
    have hlt : vB 10 (a.take (i + 1)) * vB 10 b < 10 ^ N := by
      have h1 := vB_bounds 10 (by decide) (a.take (i + 1)) (OkB_take ha _)
      have h2 := vB_bounds 10 (by decide) b hb
      have hl1 : (a.take (i + 1)).length = i + 1 := by rw [List.length_take]; omega
      rw [hl1] at h1
      have p1 := pow_ge1 10 (by decide) (i + 1)
      have p2 := pow_ge1 10 (by decide) b.length
      have m1 : vB 10 (a.take (i + 1)) * vB 10 b ≤ 10 ^ (i + 1) * vB 10 b := Int.mul_le_mul_of_nonneg_right (by omega) h2.1
      have m2 : (10 : Int) ^ (i + 1) * (vB 10 b + 1) ≤ 10 ^ (i + 1) * 10 ^ b.length := Int.mul_le_mul_of_nonneg_left (by omega) (by omega)
      rw [Int.mul_add, Int.mul_one, ← Int.pow_add] at m2
      have := pow_mono 10 (by decide) (m := i + 1 + b.length) (n := N) (by omega)
      omega
    have e := mul_l1 a b ha hb na nb N i (a.getD i 0) hx (by omega) hN hsm _ hlt _ (fun out' h1 h2 h3 => ih (i + 1) out' (by omega) (by omega) h1 h2 h3) (b.length - 0) 0 out rfl (Nat.zero_le _) hl (fun j => by
      have := getD_ok (by decide : (1 : Int) ≤ 10) hok j
      omega) hT
    refine Ev.step (fun K => ?_) e
    simp only [rostrumref09_Mul.l0]
    rw [if_pos (by omega), if_pos (by omega), if_pos (by omega), rd_nat]
    rfl

theorem len_w (m n : Nat) (hm : m ≤ 200) (hn : n ≤ 200) : wrap64 (wrap64 ((m : Int) + (n : Int)) + 1) = ((m + n + 1 : Nat) : Int) := by unfold wrap64; omega
theorem refMul_ev (a b : ByteArray) (ha : a.size ≤ 9223372036854775807) (hb : b.size ≤ 9223372036854775807) : Ev (fun k => rostrumref09_Mul.f k a b) (ansO (opO (· * ·) a b)) := by
  cases hca : N.canU a.data.toList
  · have e := can_ref_u a ha
    rw [hca] at e
    rw [opO_none_l hca]
    refine Ev.congr (fun k => by simp only [rostrumref09_Mul.f]; rfl) (Ev.bind e ?_)
    refine Ev.congr (fun k => if_neg (by decide)) (Ev.step (f := fun _ => some ((⟨#[]⟩ : ByteArray), (90 : Int))) (fun k => ?_) (Ev.now _))
    simp only [rostrumref09_Mul.j0]
    rfl
  cases hcb : N.canU b.data.toList
  · have e := can_ref_u a ha
    have e2 := can_ref_u b hb
    rw [hca] at e
    rw [hcb] at e2
    rw [opO_none_r hcb]
    refine Ev.congr (fun k => by simp only [rostrumref09_Mul.f]; rfl) (Ev.bind e ?_)
    refine Ev.congr (fun k => if_pos rfl) (Ev.bind e2 ?_)
    refine Ev.step (f := fun _ => some ((⟨#[]⟩ : ByteArray), (90 : Int))) (fun k => ?_) (Ev.now _)
    simp only [rostrumref09_Mul.j0]
    rfl
  · have e := can_ref_u a ha
    have e2 := can_ref_u b hb
    rw [hca] at e
    rw [hcb] at e2
    rw [opO_some hca hcb]
    obtain ⟨hne, la, lb, _⟩ := N.can_open hca
    obtain ⟨_, ma, mb, _⟩ := N.can_open hcb
    have hla : (revD (N.digits a.data.toList)).length ≤ 200 := by simpa [revD] using la
    have hlb : (revD (N.digits b.data.toList)).length ≤ 200 := by simpa [revD] using ma
    have oka := ok_revD _ lb
    have okb := ok_revD _ mb
    have va := sv_ref hca
    have vb := sv_ref hcb
    obtain ⟨A, hA⟩ : ∃ A, A = revD (N.digits a.data.toList) := ⟨_, rfl⟩
    obtain ⟨B, hB⟩ : ∃ B, B = revD (N.digits b.data.toList) := ⟨_, rfl⟩
    have oa := of_ref a hca
    have ob := of_ref b hcb
    rw [← hA] at hla oka va oa
    rw [← hB] at hlb okb vb ob
    clear hA hB
    have h0 := mul_l0 A B oka okb (negU a.data.toList) (negU b.data.toList) _ rfl (by omega) A.length 0 (List.replicate (A.length + B.length + 1) 0) rfl (Nat.zero_le _) (fun x hx => by rw [(List.mem_replicate.1 hx).2]; decide) (by simp) (by rw [vB_zeros]; simp [vB])
    have hval : (if (negU a.data.toList != negU b.data.toList) = true then -(vB 10 A * vB 10 B) else vB 10 A * vB 10 B) = N.valU a.data.toList * N.valU b.data.toList := by
      rw [← va, ← vb]
      unfold sv
      cases negU a.data.toList <;> cases negU b.data.toList <;> simp [Int.neg_mul, Int.mul_neg]
    rw [hval] at h0
    refine Ev.congr (fun k => by simp only [rostrumref09_Mul.f]; rfl) (Ev.bind e ?_)
    refine Ev.congr (fun k => if_pos rfl) (Ev.bind e2 ?_)
    refine Ev.step (f := fun k => (rostrumref09_of.f k a).bind fun p => (rostrumref09_of.f k b).bind fun q => if 0 ≤ (wrap64 ((wrap64 ((p.1.length : Int) + (q.1.length : Int))) + 1)) then (if (wrap64 ((wrap64 ((p.1.length : Int) + (q.1.length : Int))) + 1) : Int).toNat ≤ 35184372088832 then (rostrumref09_Mul.l0 k (List.replicate (wrap64 ((wrap64 ((p.1.length : Int) + (q.1.length : Int))) + 1) : Int).toNat 0) p.1 (p.1.length : Int) 0 p.1 p.2 q.1 q.2) else none) else none) (fun k => ?_) ?_
    · simp only [rostrumref09_Mul.j0]
      rfl
    · refine Ev.bind oa ?_
      refine Ev.bind ob ?_
      refine Ev.congr (fun k => ?_) h0
      show (if 0 ≤ (wrap64 ((wrap64 ((A.length : Int) + (B.length : Int))) + 1)) then (if (wrap64 ((wrap64 ((A.length : Int) + (B.length : Int))) + 1) : Int).toNat ≤ 35184372088832 then (rostrumref09_Mul.l0 k (List.replicate (wrap64 ((wrap64 ((A.length : Int) + (B.length : Int))) + 1) : Int).toNat 0) A (A.length : Int) 0 A (negU a.data.toList) B (negU b.data.toList)) else none) else none) = _
      rw [len_w _ _ hla hlb, if_pos (Int.natCast_nonneg _), Int.toNat_natCast, if_pos (Nat.le_trans (show A.length + B.length + 1 ≤ 401 by omega) (by decide))]
      rfl
theorem sv_nt (B : Int) (l : List Int) (n : Bool) : sv B l (!n) = -(sv B l n) := by unfold sv; cases n <;> simp
theorem refSub_ev (a b : ByteArray) (ha : a.size ≤ 9223372036854775807) (hb : b.size ≤ 9223372036854775807) : Ev (fun k => rostrumref09_Sub.f k a b) (ansO (opO (· - ·) a b)) := by
  cases hca : N.canU a.data.toList
  · have e := can_ref_u a ha
    rw [hca] at e
    rw [opO_none_l hca]
    refine Ev.congr (fun k => by simp only [rostrumref09_Sub.f]; rfl) (Ev.bind e ?_)
    refine Ev.congr (fun k => if_neg (by decide)) (Ev.step (f := fun _ => some ((⟨#[]⟩ : ByteArray), (90 : Int))) (fun k => ?_) (Ev.now _))
    simp only [rostrumref09_Sub.j0]
    rfl
  cases hcb : N.canU b.data.toList
  · have e := can_ref_u a ha
    have e2 := can_ref_u b hb
    rw [hca] at e
    rw [hcb] at e2
    rw [opO_none_r hcb]
    refine Ev.congr (fun k => by simp only [rostrumref09_Sub.f]; rfl) (Ev.bind e ?_)
    refine Ev.congr (fun k => if_pos rfl) (Ev.bind e2 ?_)
    refine Ev.step (f := fun _ => some ((⟨#[]⟩ : ByteArray), (90 : Int))) (fun k => ?_) (Ev.now _)
    simp only [rostrumref09_Sub.j0]
    rfl
  · have e := can_ref_u a ha
    have e2 := can_ref_u b hb
    rw [hca] at e
    rw [hcb] at e2
    rw [opO_some hca hcb]
    obtain ⟨hne, la, lb, _⟩ := N.can_open hca
    obtain ⟨_, ma, mb, _⟩ := N.can_open hcb
    have hla : (revD (N.digits a.data.toList)).length ≤ 200 := by simpa [revD] using la
    have hlb : (revD (N.digits b.data.toList)).length ≤ 200 := by simpa [revD] using ma
    obtain ⟨r, nr, hs, h1, h2, h3⟩ := sum_ref_ev (revD (N.digits a.data.toList)) (revD (N.digits b.data.toList)) (negU a.data.toList) (!negU b.data.toList) (ok_revD _ lb) (ok_revD _ mb) (by omega) (by omega) (by simpa [revD] using List.length_pos_iff.2 hne)
    rw [sv_ref hca, sv_nt, sv_ref hcb, ← Int.sub_eq_add_neg] at h2
    refine Ev.congr (fun k => by simp only [rostrumref09_Sub.f]; rfl) (Ev.bind e ?_)
    refine Ev.congr (fun k => if_pos rfl) (Ev.bind e2 ?_)
    have ht := text_ref_ev r nr h1 (List.length_pos_iff.1 h3.2) (by omega)
    rw [h2] at ht
    refine Ev.step (f := fun k => (rostrumref09_of.f k b).bind fun q => (rostrumref09_of.f k a).bind fun p => (rostrumref09_sum.f k p.1 p.2 q.1 (!q.2)).bind fun s => (rostrumref09_big_text.f k s.1 s.2).bind fun t => some (t.1, t.2)) (fun k => ?_) ?_
    · simp only [rostrumref09_Sub.j0]
      rfl
    · refine Ev.bind (of_ref b hcb) ?_
      refine Ev.bind (of_ref a hca) ?_
      refine Ev.bind hs ?_
      refine Ev.bind ht ?_
      exact Ev.now _
end Go.Proofs.YtlnneellihkdkaaDoor.D
