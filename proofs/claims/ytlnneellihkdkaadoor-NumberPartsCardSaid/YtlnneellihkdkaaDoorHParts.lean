/- The reference's divide, Quo, Rem, Compare whole. NumberParts: the law's walk. -/
import Derived.Test.YtlnneellihkdkaaDoorDx10
import Derived.Test.YtlnneellihkdkaaDoorDx11
import Derived.Test.YtlnneellihkdkaaDoorDx12
import Derived.Test.YtlnneellihkdkaaDoorDx21
import Derived.Test.YtlnneellihkdkaaDoorDx28
import Derived.Test.YtlnneellihkdkaaDoorHRefC
import Derived.Test.YtlnneellihkdkaaDoorHDivG
import Derived.Test.YtlnneellihkdkaaDoorHCompare
namespace Go.Proofs.YtlnneellihkdkaaDoor.D
open Go Go.Proofs Go.RowKit Go.Proofs.YtlnneellihkdkaaDoorW.PrintWords Go.Proofs.YtlnneellihkdkaaDoorW.PrintLast Go.Proofs.YtlnneellihkdkaaDoorW.PrintMore
set_option linter.unusedVariables false
set_option linter.unusedSimpArgs false

abbrev DivF (x y q r : List Int) : Prop := OkB 10 q ∧ OkB 10 r ∧ vB 10 x = vB 10 y * vB 10 q + vB 10 r ∧ 0 ≤ vB 10 r ∧ vB 10 r < vB 10 y ∧ q.length = x.length ∧ r.length ≤ 2000 ∧ r ≠ []
theorem rd_nat' (l : List Int) (n : Nat) : rd l (n : Int) = l.getD n 0 := by unfold rd; rw [Int.toNat_natCast]
theorem div_l1 (x y : List Int) (na nb : Bool) (hy : OkB 10 y) (hly : y.length ≤ 500) (Y : Int) (hY : Y = vB 10 y) (hYp : 0 < Y) (k : Nat) (hk : k ≤ 500) (qs : List Int) (V : Int) (hV : V < 10 * Y) (Lb : Nat) (hLb : Lb ≤ 1000) (hyb : y.length ≤ Lb) (F : List Int → List Int → Prop)
    (hnext : ∀ (t : Int) (r2 : List Int), 0 ≤ t ∧ t < 10 → OkB 10 r2 → vB 10 r2 = V - t * Y → vB 10 r2 < Y → r2.length ≤ Lb → r2 ≠ [] → ∃ q' r', Ev (fun K => rostrumref09_divide.l0 K (List.replicate k 0 ++ t :: qs) r2 ((k : Int) - 1) x na y nb) (q', (na != nb), r', na, 0) ∧ F q' r')
    (d : Nat) : ∀ (t : Int) (r : List Int), t + d = 10 → 0 ≤ t → OkB 10 r → vB 10 r = V - t * Y → 0 ≤ vB 10 r → r.length ≤ Lb → r ≠ [] →
      ∃ q' r', Ev (fun K => rostrumref09_divide.l1 K (List.replicate k 0 ++ t :: qs) r (k : Int) x na y nb) (q', (na != nb), r', na, 0) ∧ F q' r' := by
  induction d with
  | zero =>
    intro t r htd ht hr hv h0 hl hne
    exfalso
    have : t = 10 := by omega
    subst this
    omega
  | succ d ih =>
    intro t r htd ht hr hv h0 hl hne
    have hs := size_ref_ev r y 10 (by decide) hr hy (by omega) (by omega)
    rw [← hY] at hs
    by_cases hlt : vB 10 r < Y
    · obtain ⟨q', r', he, hF⟩ := hnext t r ⟨ht, by omega⟩ hr hv hlt hl hne
      refine ⟨q', r', ?_, hF⟩
      rw [show cmpI (vB 10 r) Y = -1 from if_pos hlt] at hs
      refine Ev.step (f := fun K => (rostrumref09_size.f K r y).bind fun t393 => (if t393 ≥ 0 then ((rostrumref09_minus.f K r y).bind fun t394 => (if 0 ≤ (k : Int) then (if (k : Int) < ((List.replicate k 0 ++ t :: qs).length : Int) then (rostrumref09_divide.l1 K ((List.replicate k 0 ++ t :: qs).set ((k : Int) : Int).toNat (wrap64 ((rd (List.replicate k 0 ++ t :: qs) (k : Int)) + 1))) t394 (k : Int) x na y nb) else (none)) else (none))) else (rostrumref09_divide.l0 K (List.replicate k 0 ++ t :: qs) r (wrap64 ((k : Int) - 1)) x na y nb))) (fun K => by simp only [rostrumref09_divide.l1]) ?_
      refine Ev.bind hs ?_
      refine Ev.congr (fun K => ?_) he
      rw [if_neg (by decide), show wrap64 ((k : Int) - 1) = (k : Int) - 1 from by unfold wrap64; omega]
    · have hge : Y ≤ vB 10 r := by omega
      have hc : 0 ≤ cmpI (vB 10 r) Y := by
        unfold cmpI
        rw [if_neg hlt]
        split <;> omega
      have hm := minus_ref_ev r y hr hy (by omega) (by omega)
      have hval := minus_val 10 (by decide) r y hr hy (max r.length y.length) (Nat.le_max_left _ _) (by rw [← hY]; exact hge)
      have hmok := minusS_ok 10 (by decide) r y hr hy (max r.length y.length) 0 0 (by decide)
      have hml := minusS_len 10 r y (max r.length y.length) 0 0
      obtain ⟨m, hmm⟩ : ∃ m, m = minusS 10 r y (max r.length y.length) 0 0 := ⟨_, rfl⟩
      rw [← hmm] at hm hval hmok hml
      rw [← hY] at hval
      have hYt : V - (t + 1) * Y = V - t * Y - Y := by rw [Int.add_mul, Int.one_mul]; omega
      have hset : (List.replicate k (0 : Int) ++ t :: qs).set k (t + 1) = List.replicate k 0 ++ (t + 1) :: qs := by
        rw [List.set_append_right _ _ (by simp)]
        simp
      have hrd : rd (List.replicate k (0 : Int) ++ t :: qs) (k : Int) = t := by
        rw [rd_nat', List.getD_eq_getElem?_getD, List.getElem?_append_right (by simp)]
        simp
      have ht9 : t ≤ 9 := by omega
      have hr0 : 0 < r.length := List.length_pos_iff.2 hne
      obtain ⟨q', r', he, hF⟩ := ih (t + 1) m (by omega) (by omega) hmok (by rw [hval, hv, hYt]) (by rw [hval]; omega) (by rw [hml]; omega) (by rintro rfl; simp at hml; omega)
      refine ⟨q', r', ?_, hF⟩
      refine Ev.step (f := fun K => (rostrumref09_size.f K r y).bind fun t393 => (if t393 ≥ 0 then ((rostrumref09_minus.f K r y).bind fun t394 => (if 0 ≤ (k : Int) then (if (k : Int) < ((List.replicate k 0 ++ t :: qs).length : Int) then (rostrumref09_divide.l1 K ((List.replicate k 0 ++ t :: qs).set ((k : Int) : Int).toNat (wrap64 ((rd (List.replicate k 0 ++ t :: qs) (k : Int)) + 1))) t394 (k : Int) x na y nb) else (none)) else (none))) else (rostrumref09_divide.l0 K (List.replicate k 0 ++ t :: qs) r (wrap64 ((k : Int) - 1)) x na y nb))) (fun K => by simp only [rostrumref09_divide.l1]) ?_
      refine Ev.bind hs ?_
      refine Ev.congr (fun K => if_pos hc) ?_
      refine Ev.bind hm ?_
      refine Ev.congr (fun K => ?_) he
      rw [if_pos (by omega), if_pos (by simp; omega), hrd, Int.toNat_natCast, show wrap64 (t + 1) = t + 1 from by unfold wrap64; omega, hset]

theorem div_l0 (x y : List Int) (na nb : Bool) (hx : OkB 10 x) (hy : OkB 10 y) (hlx : x.length ≤ 300) (hly : y.length ≤ 300) (hYp : 0 < vB 10 y) (k : Nat) : ∀ (qs r : List Int), k ≤ x.length → qs.length = x.length - k → OkB 10 qs → OkB 10 r → vB 10 (x.drop k) = vB 10 y * vB 10 qs + vB 10 r → 0 ≤ vB 10 r → vB 10 r < vB 10 y → r.length ≤ 1 + (x.length - k) + y.length → r ≠ [] →
    ∃ q' r', Ev (fun K => rostrumref09_divide.l0 K (List.replicate k 0 ++ qs) r ((k : Int) - 1) x na y nb) (q', (na != nb), r', na, 0) ∧ DivF x y q' r' := by
  induction k with
  | zero =>
    intro qs r hk hql hqo hro hv h0 hlt hrl hne
    rw [List.drop_zero] at hv
    refine ⟨qs, r, Ev.step (f := fun _ => some (qs, (na != nb), r, na, (0 : Int))) (fun K => ?_) (Ev.now _), hqo, hro, hv, h0, hlt, by omega, by omega, hne⟩
    simp only [rostrumref09_divide.l0, List.replicate_zero, List.nil_append]
    rw [if_neg (by decide)]
  | succ k ih =>
    intro qs r hk hql hqo hro hv h0 hlt hrl hne
    obtain ⟨Y, hY⟩ : ∃ Y, Y = vB 10 y := ⟨_, rfl⟩
    have hxk := getD_ok (by decide : (1 : Int) ≤ 10) hx k
    obtain ⟨c, hc⟩ : ∃ c, c = x.getD k 0 := ⟨_, rfl⟩
    rw [← hc] at hxk
    have hdrop : vB 10 (x.drop k) = c + 10 * vB 10 (x.drop (k + 1)) := by rw [vB_drop, ← hc]
    rw [← hY] at hv hlt
    have hro' : OkB 10 (c :: r) := fun z hz => by
      rcases List.mem_cons.1 hz with rfl | hz
      · exact hxk
      · exact hro z hz
    have hvc : vB 10 (c :: r) = c + 10 * vB 10 r := by simp [vB]
    obtain ⟨q', r', he, hF⟩ := div_l1 x y na nb hy (by omega) Y hY (by omega) k (by omega) qs (c + 10 * vB 10 r) (by omega) (1 + (x.length - k) + y.length) (by omega) (by omega) (DivF x y)
      (fun t r2 ht hr2 hv2 hlt2 hl2 hne2 => by
        have hmul : 10 * (Y * vB 10 qs) = Y * (10 * vB 10 qs) := by rw [Int.mul_left_comm]
        refine ih (t :: qs) r2 (by omega) (by simp; omega) (fun z hz => ?_) hr2 ?_ ?_ (by rw [← hY]; exact hlt2) hl2 hne2
        · rcases List.mem_cons.1 hz with rfl | hz
          · exact ht
          · exact hqo z hz
        · rw [hdrop, hv, ← hY, vB, Int.mul_add, hv2, Int.mul_add, hmul, Int.mul_comm t Y]; omega
        · exact (vB_bounds 10 (by decide) r2 hr2).1) 10 0 (c :: r) rfl (Int.le_refl _) hro' (by rw [hvc]; omega) (by rw [hvc]; omega) (by simp; omega) (by simp)
    refine ⟨q', r', Ev.step (fun K => ?_) he, hF⟩
    simp only [rostrumref09_divide.l0]
    have e0 : ((k + 1 : Nat) : Int) - 1 = (k : Int) := by omega
    rw [e0, if_pos (by omega), if_pos (by omega), if_pos (by omega), rd_nat', ← hc]
    simp only [Option.bind_some, List.length_cons, List.length_nil]
    rw [if_pos (by omega), List.replicate_succ']
    simp
theorem quo_sv (X Y : Int) (hX : 0 ≤ X) (na nb : Bool) : (if (na != nb) = true then -(X / Y) else X / Y) = Int.tdiv (if na = true then -X else X) (if nb = true then -Y else Y) := by
  cases na <;> cases nb <;> simp [Int.neg_tdiv, Int.tdiv_neg, Int.tdiv_eq_ediv_of_nonneg hX]
theorem rem_sv (X Y : Int) (hX : 0 ≤ X) (na nb : Bool) : (if na = true then -(X % Y) else X % Y) = Int.tmod (if na = true then -X else X) (if nb = true then -Y else Y) := by
  cases na <;> cases nb <;> simp [Int.neg_tmod, Int.tmod_neg, Int.tmod_eq_emod_of_nonneg hX]
def ansQO : Option (Option Int) → ByteArray × Int
  | none => (⟨#[]⟩, 90)
  | some none => (⟨#[]⟩, 92)
  | some (some z) => ansP z
theorem ansQ_O (o : Option (Option Int)) : ansQ o = .tuple #[.string (ansQO o).1, .int .i64 (ansQO o).2] := by
  match o with
  | none => rfl
  | some none => rfl
  | some (some z) => exact ansV_O (some z)
theorem zero_text {b : ByteArray} (hcb : N.canU b.data.toList = true) : b.toList = [48] ↔ N.valU b.data.toList = 0 := by
  rw [Lib.toList_data]
  constructor
  · intro h; rw [h]; decide
  · intro h
    have h1 := N.itoa_val hcb
    have h2 := N.itoa_val (l := [48]) (by decide)
    rw [show N.valU [48] = 0 from by decide] at h2
    rw [h, h2] at h1
    exact h1.symm
/-- what the reference's divide answers -/
def divA (a b : ByteArray) (p : List Int × Bool × List Int × Bool × Int) : Prop :=
  match partO Int.tdiv a b, partO Int.tmod a b with
  | none, _ => p = ([], false, [], false, 90)
  | some none, _ => p = ([], false, [], false, 92)
  | some (some z), some (some u) => ∃ q r n m, p = (q, n, r, m, 0) ∧ OkB 10 q ∧ OkB 10 r ∧ q ≠ [] ∧ r ≠ [] ∧ q.length ≤ 2000 ∧ r.length ≤ 2000 ∧ sv 10 q n = z ∧ sv 10 r m = u
  | some (some _), _ => False
theorem refDivide_ev (a b : ByteArray) (ha : a.size ≤ 9223372036854775807) (hb : b.size ≤ 9223372036854775807) : ∃ p, Ev (fun k => rostrumref09_divide.f k a b) p ∧ divA a b p := by
  cases hca : N.canU a.data.toList
  · have e := can_ref_u a ha
    rw [hca] at e
    refine ⟨([], false, [], false, 90), ?_, by unfold divA; rw [partO_none (.inl hca)]⟩
    refine Ev.congr (fun k => by simp only [rostrumref09_divide.f]; rfl) (Ev.bind e ?_)
    refine Ev.congr (fun k => if_neg (by decide)) (Ev.step (f := fun _ => some (([] : List Int), false, ([] : List Int), false, (90 : Int))) (fun k => ?_) (Ev.now _))
    simp only [rostrumref09_divide.j0]
    rfl
  cases hcb : N.canU b.data.toList
  · have e := can_ref_u a ha
    have e2 := can_ref_u b hb
    rw [hca] at e
    rw [hcb] at e2
    refine ⟨([], false, [], false, 90), ?_, by unfold divA; rw [partO_none (.inr hcb)]⟩
    refine Ev.congr (fun k => by simp only [rostrumref09_divide.f]; rfl) (Ev.bind e ?_)
    refine Ev.congr (fun k => if_pos rfl) (Ev.bind e2 ?_)
    refine Ev.step (f := fun _ => some (([] : List Int), false, ([] : List Int), false, (90 : Int))) (fun k => ?_) (Ev.now _)
    simp only [rostrumref09_divide.j0]
    rfl
  have e := can_ref_u a ha
  have e2 := can_ref_u b hb
  rw [hca] at e
  rw [hcb] at e2
  by_cases hz : limbsU b.data.toList = []
  · have hv := (limbs_nil hcb).1 hz
    have ht := (zero_text hcb).2 hv
    refine ⟨([], false, [], false, 92), ?_, by unfold divA; rw [partO_zero hca hcb hz]⟩
    refine Ev.congr (fun k => by simp only [rostrumref09_divide.f]; rfl) (Ev.bind e ?_)
    refine Ev.congr (fun k => if_pos rfl) (Ev.bind e2 ?_)
    refine Ev.step (f := fun _ => some (([] : List Int), false, ([] : List Int), false, (92 : Int))) (fun k => ?_) (Ev.now _)
    simp only [rostrumref09_divide.j0]
    rw [if_neg (by decide), if_pos ht]
  · have hv : N.valU b.data.toList ≠ 0 := fun h => hz ((limbs_nil hcb).2 h)
    have ht : ¬ b.toList = [48] := fun h => hv ((zero_text hcb).1 h)
    obtain ⟨hne, la, lb, _⟩ := N.can_open hca
    obtain ⟨_, ma, mb, _⟩ := N.can_open hcb
    have hla : (revD (N.digits a.data.toList)).length ≤ 200 := by simpa [revD] using la
    have hlb : (revD (N.digits b.data.toList)).length ≤ 200 := by simpa [revD] using ma
    have hlp : 0 < (revD (N.digits a.data.toList)).length := by simpa [revD] using List.length_pos_iff.2 hne
    have oka := ok_revD _ lb
    have okb := ok_revD _ mb
    have va := sv_ref hca
    have vb := sv_ref hcb
    have oa := of_ref a hca
    have ob := of_ref b hcb
    obtain ⟨A, hA⟩ : ∃ A, A = revD (N.digits a.data.toList) := ⟨_, rfl⟩
    obtain ⟨B, hB⟩ : ∃ B, B = revD (N.digits b.data.toList) := ⟨_, rfl⟩
    rw [← hA] at hla oka va oa hlp
    rw [← hB] at hlb okb vb ob
    clear hA hB
    have hBp : 0 < vB 10 B := by
      have := (vB_bounds 10 (by decide) B okb).1
      rcases Int.lt_or_le 0 (vB 10 B) with h | h
      · exact h
      · exfalso
        have h0 : vB 10 B = 0 := by omega
        apply hv
        rw [← vb]
        unfold sv
        rw [h0]
        split <;> rfl
    have hA0 := (vB_bounds 10 (by decide) A oka).1
    obtain ⟨q, r, hev, f1, f2, f3, f4, f5, f6, f7, f8⟩ := div_l0 A B (negU a.data.toList) (negU b.data.toList) oka okb (by omega) (by omega) hBp A.length [] [0] (Nat.le_refl _) (by simp) (fun x hx => by simp at hx) (fun x hx => by rw [List.mem_singleton.1 hx]; decide) (by simp [vB]) (by simp [vB]) (by simpa [vB] using hBp) (by simp) (by simp)
    have hqr : vB 10 A / vB 10 B = vB 10 q ∧ vB 10 A % vB 10 B = vB 10 r := (Int.ediv_emod_unique hBp).2 ⟨by omega, f4, f5⟩
    refine ⟨(q, (negU a.data.toList != negU b.data.toList), r, negU a.data.toList, 0), ?_, ?_⟩
    · refine Ev.congr (fun k => by simp only [rostrumref09_divide.f]; rfl) (Ev.bind e ?_)
      refine Ev.congr (fun k => if_pos rfl) (Ev.bind e2 ?_)
      refine Ev.step (f := fun k => (rostrumref09_of.f k a).bind fun bt370 => ((rostrumref09_of.f k b).bind fun bt374 => (if 0 ≤ (bt370.1.length : Int) then (if ((bt370.1.length : Int) : Int).toNat ≤ 35184372088832 then (rostrumref09_divide.l0 k (List.replicate ((bt370.1.length : Int) : Int).toNat 0) (([0] : List Int)) (wrap64 ((bt370.1.length : Int) - 1)) bt370.1 bt370.2 bt374.1 bt374.2) else (none)) else (none)))) (fun k => ?_) ?_
      · simp only [rostrumref09_divide.j0]
        rw [if_neg (by decide), if_neg ht]
      · refine Ev.bind oa ?_
        refine Ev.bind ob ?_
        refine Ev.congr (fun k => ?_) hev
        show (if 0 ≤ (A.length : Int) then (if ((A.length : Int) : Int).toNat ≤ 35184372088832 then (rostrumref09_divide.l0 k (List.replicate ((A.length : Int) : Int).toNat 0) (([0] : List Int)) (wrap64 ((A.length : Int) - 1)) A (negU a.data.toList) B (negU b.data.toList)) else (none)) else (none)) = _
        rw [if_pos (Int.natCast_nonneg _), Int.toNat_natCast, if_pos (Nat.le_trans hla (by decide)), down_ _ (Nat.le_trans hla (by decide)), List.append_nil]
    · unfold divA
      rw [partO_some Int.tdiv hca hcb hz, partO_some Int.tmod hca hcb hz]
      refine ⟨q, r, _, _, rfl, f1, f2, by rintro rfl; simp at f6; omega, f8, by omega, f7, ?_, ?_⟩
      · rw [← va, ← vb]
        unfold sv
        rw [← hqr.1]
        exact quo_sv _ _ hA0 _ _
      · rw [← va, ← vb]
        unfold sv
        rw [← hqr.2]
        exact rem_sv _ _ hA0 _ _
theorem part_alike (f g : Int → Int → Int) (a b : ByteArray) : (partO f a b = none ∧ partO g a b = none) ∨ (partO f a b = some none ∧ partO g a b = some none) ∨ ∃ z u, partO f a b = some (some z) ∧ partO g a b = some (some u) := by
  unfold partO
  cases valO a with
  | none => exact .inl ⟨rfl, rfl⟩
  | some x =>
    cases valO b with
    | none => exact .inl ⟨rfl, rfl⟩
    | some y =>
      by_cases h : y = 0
      · exact .inr (.inl ⟨by simp [h], by simp [h]⟩)
      · exact .inr (.inr ⟨_, _, by simp [h]; rfl, by simp [h]; rfl⟩)
theorem refQuo_ev (a b : ByteArray) (ha : a.size ≤ 9223372036854775807) (hb : b.size ≤ 9223372036854775807) : Ev (fun k => rostrumref09_Quo.f k a b) (ansQO (partO Int.tdiv a b)) := by
  obtain ⟨p, he, hd⟩ := refDivide_ev a b ha hb
  refine Ev.congr (fun k => by simp only [rostrumref09_Quo.f]; rfl) (Ev.bind he ?_)
  rcases part_alike Int.tdiv Int.tmod a b with ⟨h1, h2⟩ | ⟨h1, h2⟩ | ⟨z, u, h1, h2⟩
  all_goals
    unfold divA at hd
    rw [h1, h2] at hd
    rw [h1]
  · have hd' : p = ([], false, [], false, 90) := hd
    subst hd'
    exact Ev.congr (fun k => if_neg (by decide)) (Ev.now _)
  · have hd' : p = ([], false, [], false, 92) := hd
    subst hd'
    exact Ev.congr (fun k => if_neg (by decide)) (Ev.now _)
  · obtain ⟨q, r, n, m, rfl, g1, g2, g3, g4, g5, g6, g7, g8⟩ := hd
    have ht := text_ref_ev q n g1 g3 (by omega)
    rw [g7] at ht
    refine Ev.congr (fun k => if_pos rfl) ?_
    exact Ev.bind ht (Ev.now _)
theorem refRem_ev (a b : ByteArray) (ha : a.size ≤ 9223372036854775807) (hb : b.size ≤ 9223372036854775807) : Ev (fun k => rostrumref09_Rem.f k a b) (ansQO (partO Int.tmod a b)) := by
  obtain ⟨p, he, hd⟩ := refDivide_ev a b ha hb
  refine Ev.congr (fun k => by simp only [rostrumref09_Rem.f]; rfl) (Ev.bind he ?_)
  rcases part_alike Int.tdiv Int.tmod a b with ⟨h1, h2⟩ | ⟨h1, h2⟩ | ⟨z, u, h1, h2⟩
  all_goals
    unfold divA at hd
    rw [h1, h2] at hd
    rw [h2]
  · have hd' : p = ([], false, [], false, 90) := hd
    subst hd'
    exact Ev.congr (fun k => if_neg (by decide)) (Ev.now _)
  · have hd' : p = ([], false, [], false, 92) := hd
    subst hd'
    exact Ev.congr (fun k => if_neg (by decide)) (Ev.now _)
  · obtain ⟨q, r, n, m, rfl, g1, g2, g3, g4, g5, g6, g7, g8⟩ := hd
    have ht := text_ref_ev r m g2 g4 (by omega)
    rw [g8] at ht
    refine Ev.congr (fun k => if_pos rfl) ?_
    exact Ev.bind ht (Ev.now _)
end Go.Proofs.YtlnneellihkdkaaDoor.D
namespace Go.Proofs.YtlnneellihkdkaaDoor.D
open Go Go.Proofs Go.RowKit Go.Shelf Go.Proofs.YtlnneellihkdkaaDoorW.PrintWords Go.Proofs.YtlnneellihkdkaaDoorW.PrintLast Go.Proofs.YtlnneellihkdkaaDoorW.PrintMore
set_option linter.unusedVariables false
set_option linter.unusedSimpArgs false

set_option maxRecDepth 100000 in
set_option maxHeartbeats 4000000 in
theorem parts_walk (a b x p : ByteArray) (n g c i : Int) (w : World) (hL : LaidW w) (HQ : Aside0 (Ans 22 a b x n)) (HR : Aside0 (Ans 24 a b p g)) (RQ : Aside0 (∀ W : World, Calls Tryd.prog 23 #[.string a, .string b] W fun e w' => e = .returned (.tuple #[.string x, .int .i64 n]) ∧ Below W.heap.size W w')) (RR : Aside0 (∀ W : World, Calls Tryd.prog 25 #[.string a, .string b] W fun e w' => e = .returned (.tuple #[.string p, .int .i64 g]) ∧ Below W.heap.size W w')) (HC : Aside0 (∀ W : World, Calls Tryd.prog 21 #[.string a, .string b] W fun e w' => e = .returned (.tuple #[.int .i64 c, .int .i64 i]) ∧ Below W.heap.size W w')) (RC : Aside0 (∀ W : World, Calls Tryd.prog 26 #[.string a, .string b] W fun e w' => e = .returned (.tuple #[.int .i64 c, .int .i64 i]) ∧ Below W.heap.size W w')) :
    Calls Tryd.prog 7 #[.string a, .string b] w fun e w' => e = .returned (.bool true) ∧ Below w.heap.size w w' := by
  have HL := Aside0.mk hL
  have HB := Aside0.mk (Below.refl w.heap.size w)
  clear hL
  go_enter Tryd.func7, Tryd.ntmps7
  go_wp2_with
    (first
    | (go_at_call 22; with_reducible refine (HQ.out _ (HL.out.below HB.out (Nat.le_refl _))).mono ?_; rintro e w1 ⟨rfl, hB1⟩; have n_ := Aside0.mk (HB.out.trans (hB1.mono HB.out.size)); clear HB hB1; have HB := n_; clear n_)
    | (go_at_call 23; with_reducible refine (RQ.out _).mono ?_; rintro e w1 ⟨rfl, hB1⟩; have n_ := Aside0.mk (HB.out.trans (hB1.mono HB.out.size)); clear HB hB1; have HB := n_; clear n_)
    | (go_at_call 24; with_reducible refine (HR.out _ (HL.out.below HB.out (Nat.le_refl _))).mono ?_; rintro e w1 ⟨rfl, hB1⟩; have n_ := Aside0.mk (HB.out.trans (hB1.mono HB.out.size)); clear HB hB1; have HB := n_; clear n_)
    | (go_at_call 25; with_reducible refine (RR.out _).mono ?_; rintro e w1 ⟨rfl, hB1⟩; have n_ := Aside0.mk (HB.out.trans (hB1.mono HB.out.size)); clear HB hB1; have HB := n_; clear n_)
    | (go_at_call 21; with_reducible refine (HC.out _).mono ?_; rintro e w1 ⟨rfl, hB1⟩; have n_ := Aside0.mk (HB.out.trans (hB1.mono HB.out.size)); clear HB hB1; have HB := n_; clear n_)
    | (go_at_call 26; with_reducible refine (RC.out _).mono ?_; rintro e w1 ⟨rfl, hB1⟩; have n_ := Aside0.mk (HB.out.trans (hB1.mono HB.out.size)); clear HB hB1; have HB := n_; clear n_))
  all_goals go_ret
  all_goals exact ⟨rfl, HB.out⟩
theorem parts_calls (a b : ByteArray) (ha : a.size ≤ 9223372036854775807) (hb : b.size ≤ 9223372036854775807) (w : World) (hL : LaidW w) :
    Calls Tryd.prog 7 #[.string a, .string b] w fun e w' => e = .returned (.bool true) ∧ Below w.heap.size w w' := by
  obtain ⟨kq, hq⟩ := Ev.rounds (refQuo_ev a b ha hb)
  obtain ⟨kr, hr⟩ := Ev.rounds (refRem_ev a b ha hb)
  obtain ⟨kc, hc⟩ := Ev.rounds (compare_ref a b ha hb)
  exact parts_walk a b (ansQO (partO Int.tdiv a b)).1 (ansQO (partO Int.tmod a b)).1 (ansQO (partO Int.tdiv a b)).2 (ansQO (partO Int.tmod a b)).2 (cmpO a b).1 (cmpO a b).2 w hL
    ⟨fun W hW => ansQ_O (partO Int.tdiv a b) ▸ quo_calls a b ha hb W hW⟩ ⟨fun W hW => ansQ_O (partO Int.tmod a b) ▸ rem_calls a b ha hb W hW⟩
    ⟨fun W => rostrumref09_Quo.calls kq a b _ _ W hq⟩ ⟨fun W => rostrumref09_Rem.calls kr a b _ _ W hr⟩ ⟨compare_calls a b ha hb⟩ ⟨fun W => rostrumref09_Compare.calls kc a b _ _ W hc⟩
end Go.Proofs.YtlnneellihkdkaaDoor.D
