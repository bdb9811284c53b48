/- NumberDivides: the law's walk. -/
import Derived.Test.YtlnneellihkdkaaDoorDx1
import Derived.Test.YtlnneellihkdkaaDoorDx16
import Derived.Test.YtlnneellihkdkaaDoorHDivG
import Derived.Test.YtlnneellihkdkaaDoorHCmp
import Derived.Test.YtlnneellihkdkaaDoorHGood
namespace Go.Proofs.YtlnneellihkdkaaDoor.D
open Go Go.Proofs Go.RowKit Go.Shelf Go.Proofs.YtlnneellihkdkaaDoorW.PrintWords Go.Proofs.YtlnneellihkdkaaDoorW.PrintLast Go.Proofs.YtlnneellihkdkaaDoorW.PrintMore
set_option linter.unusedVariables false
set_option linter.unusedSimpArgs false

abbrev StrIs (f : Nat) (a c : ByteArray) (r : Value) : Prop := ∀ W : World, Calls Tryd.prog f #[.string a, .string c] W fun e w' => e = .returned r ∧ Below W.heap.size W w'

set_option maxRecDepth 100000 in
set_option maxHeartbeats 4000000 in
theorem divides_bad (a b : ByteArray) (ca cb : Bool) (hc : (ca && cb) = false) (w : World) (hL : LaidW w) (HQ : Aside0 (Ans 22 a b ⟨#[]⟩ 90)) (HR : Aside0 (Ans 24 a b ⟨#[]⟩ 90)) (CA : Aside0 (CanIs a ca)) (CB : Aside0 (CanIs b cb)) :
    Calls Tryd.prog 8 #[.string a, .string b] w fun e w' => e = .returned (.bool true) ∧ Below w.heap.size w w' := by
  have HL := Aside0.mk hL
  have HB := Aside0.mk (Below.refl w.heap.size w)
  clear hL
  cases ca <;> cases cb
  all_goals try (exact absurd hc (by decide))
  all_goals go_enter Tryd.func8, Tryd.ntmps8
  all_goals go_wp2_with
    (first
    | (go_at_call 22; with_reducible refine (HQ.out _ (HL.out.below HB.out (Nat.le_refl _))).mono ?_; rintro e w1 ⟨rfl, hB1⟩; have n_ := Aside0.mk (HB.out.trans (hB1.mono HB.out.size)); clear HB hB1; have HB := n_; clear n_)
    | (go_at_call 24; with_reducible refine (HR.out _ (HL.out.below HB.out (Nat.le_refl _))).mono ?_; rintro e w1 ⟨rfl, hB1⟩; have n_ := Aside0.mk (HB.out.trans (hB1.mono HB.out.size)); clear HB hB1; have HB := n_; clear n_)
    | (go_at_call 12; with_reducible refine (CA.out _).mono ?_; rintro e w1 ⟨rfl, hB1⟩; have n_ := Aside0.mk (HB.out.trans (hB1.mono HB.out.size)); clear HB hB1; have HB := n_; clear n_)
    | (go_at_call 12; with_reducible refine (CB.out _).mono ?_; rintro e w1 ⟨rfl, hB1⟩; have n_ := Aside0.mk (HB.out.trans (hB1.mono HB.out.size)); clear HB hB1; have HB := n_; clear n_))
  all_goals go_ret
  all_goals exact ⟨rfl, HB.out⟩

set_option maxRecDepth 100000 in
set_option maxHeartbeats 4000000 in
theorem divides_zero (a b : ByteArray) (hb : b = ⟨#[48]⟩) (w : World) (hL : LaidW w) (HQ : Aside0 (Ans 22 a b ⟨#[]⟩ 92)) (HR : Aside0 (Ans 24 a b ⟨#[]⟩ 92)) (CA : Aside0 (CanIs a true)) :
    Calls Tryd.prog 8 #[.string a, .string b] w fun e w' => e = .returned (.bool true) ∧ Below w.heap.size w w' := by
  have HL := Aside0.mk hL
  have HB := Aside0.mk (Below.refl w.heap.size w)
  clear hL
  subst hb
  go_enter Tryd.func8, Tryd.ntmps8
  go_wp2_with
    (first
    | (go_at_call 22; with_reducible refine (HQ.out _ (HL.out.below HB.out (Nat.le_refl _))).mono ?_; rintro e w1 ⟨rfl, hB1⟩; have n_ := Aside0.mk (HB.out.trans (hB1.mono HB.out.size)); clear HB hB1; have HB := n_; clear n_)
    | (go_at_call 24; with_reducible refine (HR.out _ (HL.out.below HB.out (Nat.le_refl _))).mono ?_; rintro e w1 ⟨rfl, hB1⟩; have n_ := Aside0.mk (HB.out.trans (hB1.mono HB.out.size)); clear HB hB1; have HB := n_; clear n_)
    | (go_at_call 12; with_reducible refine (CA.out _).mono ?_; rintro e w1 ⟨rfl, hB1⟩; have n_ := Aside0.mk (HB.out.trans (hB1.mono HB.out.size)); clear HB hB1; have HB := n_; clear n_))
  all_goals go_ret
  all_goals exact ⟨rfl, HB.out⟩

set_option maxRecDepth 100000 in
set_option maxHeartbeats 4000000 in
theorem divides_0 (a b q p tr tb : ByteArray) (w : World) (hL : LaidW w) (HQ : Aside0 (Ans 22 a b q 0)) (HR : Aside0 (Ans 24 a b ⟨#[48]⟩ 0)) (HM : Aside0 (Ans 16 q b p 0)) (HA : Aside0 (Ans 15 p ⟨#[48]⟩ a 0)) (TR : Aside0 (StrIs 28 ⟨#[48]⟩ ⟨#[45]⟩ (.string tr))) (TB : Aside0 (StrIs 28 b ⟨#[45]⟩ (.string tb))) (CM : Aside0 (∀ W : World, Calls Tryd.prog 21 #[.string tr, .string tb] W fun e w' => e = .returned (.tuple #[.int .i64 (-1), .int .i64 0]) ∧ Below W.heap.size W w')) :
    Calls Tryd.prog 8 #[.string a, .string b] w fun e w' => e = .returned (.bool true) ∧ Below w.heap.size w w' := by
  have HL := Aside0.mk hL
  have HB := Aside0.mk (Below.refl w.heap.size w)
  clear hL
  go_enter Tryd.func8, Tryd.ntmps8
  go_wp2_with
    (first
    | (go_at_call 22; with_reducible refine (HQ.out _ (HL.out.below HB.out (Nat.le_refl _))).mono ?_; rintro e w1 ⟨rfl, hB1⟩; have n_ := Aside0.mk (HB.out.trans (hB1.mono HB.out.size)); clear HB hB1; have HB := n_; clear n_)
    | (go_at_call 24; with_reducible refine (HR.out _ (HL.out.below HB.out (Nat.le_refl _))).mono ?_; rintro e w1 ⟨rfl, hB1⟩; have n_ := Aside0.mk (HB.out.trans (hB1.mono HB.out.size)); clear HB hB1; have HB := n_; clear n_)
    | (go_at_call 16; with_reducible refine (HM.out _ (HL.out.below HB.out (Nat.le_refl _))).mono ?_; rintro e w1 ⟨rfl, hB1⟩; have n_ := Aside0.mk (HB.out.trans (hB1.mono HB.out.size)); clear HB hB1; have HB := n_; clear n_)
    | (go_at_call 15; with_reducible refine (HA.out _ (HL.out.below HB.out (Nat.le_refl _))).mono ?_; rintro e w1 ⟨rfl, hB1⟩; have n_ := Aside0.mk (HB.out.trans (hB1.mono HB.out.size)); clear HB hB1; have HB := n_; clear n_)
    | (go_at_call 28; with_reducible refine (TR.out _).mono ?_; rintro e w1 ⟨rfl, hB1⟩; have n_ := Aside0.mk (HB.out.trans (hB1.mono HB.out.size)); clear HB hB1; have HB := n_; clear n_)
    | (go_at_call 28; with_reducible refine (TB.out _).mono ?_; rintro e w1 ⟨rfl, hB1⟩; have n_ := Aside0.mk (HB.out.trans (hB1.mono HB.out.size)); clear HB hB1; have HB := n_; clear n_)
    | (go_at_call 21; with_reducible refine (CM.out _).mono ?_; rintro e w1 ⟨rfl, hB1⟩; have n_ := Aside0.mk (HB.out.trans (hB1.mono HB.out.size)); clear HB hB1; have HB := n_; clear n_))
  all_goals go_ret
  all_goals exact ⟨rfl, HB.out⟩

set_option maxRecDepth 100000 in
set_option maxHeartbeats 4000000 in
theorem divides_1 (a b q r p tr tb : ByteArray) (n : Bool) (hr : r ≠ ⟨#[48]⟩) (w : World) (hL : LaidW w) (HQ : Aside0 (Ans 22 a b q 0)) (HR : Aside0 (Ans 24 a b r 0)) (HM : Aside0 (Ans 16 q b p 0)) (HA : Aside0 (Ans 15 p r a 0)) (TR : Aside0 (StrIs 28 r ⟨#[45]⟩ (.string tr))) (TB : Aside0 (StrIs 28 b ⟨#[45]⟩ (.string tb))) (CM : Aside0 (∀ W : World, Calls Tryd.prog 21 #[.string tr, .string tb] W fun e w' => e = .returned (.tuple #[.int .i64 (-1), .int .i64 0]) ∧ Below W.heap.size W w')) (PR : Aside0 (StrIs 27 r ⟨#[45]⟩ (.bool n))) (PA : Aside0 (StrIs 27 a ⟨#[45]⟩ (.bool n))) :
    Calls Tryd.prog 8 #[.string a, .string b] w fun e w' => e = .returned (.bool true) ∧ Below w.heap.size w w' := by
  have HL := Aside0.mk hL
  have HB := Aside0.mk (Below.refl w.heap.size w)
  clear hL
  have hr2 : (r.toList == [48]) = false := by
    rw [Bool.eq_false_iff]
    intro h
    exact hr (by rw [ByteArray.ext_iff, ← Array.toList_inj, ← Lib.toList_data]; simpa using h)
  have hr3 : r.toList ≠ [48] := by simpa using hr2
  clear hr
  go_enter Tryd.func8, Tryd.ntmps8
  go_wp2_with
    (first
    | (go_at_call 22; with_reducible refine (HQ.out _ (HL.out.below HB.out (Nat.le_refl _))).mono ?_; rintro e w1 ⟨rfl, hB1⟩; have n_ := Aside0.mk (HB.out.trans (hB1.mono HB.out.size)); clear HB hB1; have HB := n_; clear n_)
    | (go_at_call 24; with_reducible refine (HR.out _ (HL.out.below HB.out (Nat.le_refl _))).mono ?_; rintro e w1 ⟨rfl, hB1⟩; have n_ := Aside0.mk (HB.out.trans (hB1.mono HB.out.size)); clear HB hB1; have HB := n_; clear n_)
    | (go_at_call 16; with_reducible refine (HM.out _ (HL.out.below HB.out (Nat.le_refl _))).mono ?_; rintro e w1 ⟨rfl, hB1⟩; have n_ := Aside0.mk (HB.out.trans (hB1.mono HB.out.size)); clear HB hB1; have HB := n_; clear n_)
    | (go_at_call 15; with_reducible refine (HA.out _ (HL.out.below HB.out (Nat.le_refl _))).mono ?_; rintro e w1 ⟨rfl, hB1⟩; have n_ := Aside0.mk (HB.out.trans (hB1.mono HB.out.size)); clear HB hB1; have HB := n_; clear n_)
    | (go_at_call 28; with_reducible refine (TR.out _).mono ?_; rintro e w1 ⟨rfl, hB1⟩; have n_ := Aside0.mk (HB.out.trans (hB1.mono HB.out.size)); clear HB hB1; have HB := n_; clear n_)
    | (go_at_call 28; with_reducible refine (TB.out _).mono ?_; rintro e w1 ⟨rfl, hB1⟩; have n_ := Aside0.mk (HB.out.trans (hB1.mono HB.out.size)); clear HB hB1; have HB := n_; clear n_)
    | (go_at_call 21; with_reducible refine (CM.out _).mono ?_; rintro e w1 ⟨rfl, hB1⟩; have n_ := Aside0.mk (HB.out.trans (hB1.mono HB.out.size)); clear HB hB1; have HB := n_; clear n_)
    | (go_at_call 27; with_reducible refine (PR.out _).mono ?_; rintro e w1 ⟨rfl, hB1⟩; have n_ := Aside0.mk (HB.out.trans (hB1.mono HB.out.size)); clear HB hB1; have HB := n_; clear n_)
    | (go_at_call 27; with_reducible refine (PA.out _).mono ?_; rintro e w1 ⟨rfl, hB1⟩; have n_ := Aside0.mk (HB.out.trans (hB1.mono HB.out.size)); clear HB hB1; have HB := n_; clear n_))
  all_goals go_ret
  all_goals exact ⟨rfl, HB.out⟩

theorem trim_u (s : ByteArray) : ∃ t, strings_TrimPrefix.f s (⟨#[45]⟩ : ByteArray) = some t ∧ t.data.toList = N.digits s.data.toList ∧ t.size ≤ s.size := by
  obtain ⟨t, ht, htl, htb, heq⟩ := trim_minus s
  refine ⟨t, ht, ?_, htl⟩
  have hb : (t.data.toList.map fun b => (b.toNat : Int)) = (N.digits s.data.toList).map fun b => (b.toNat : Int) := by
    rw [← bytes_map, htb, bytes_map]
    unfold N.digits
    by_cases hm : s.data.toList.head? = some 45
    · rw [if_pos hm, if_pos (by have := head_byte s.data.toList 45; rw [show ((45 : UInt8).toNat : Int) = 45 from rfl] at this; rw [this]; simpa using hm), List.map_tail]
    · rw [if_neg hm, if_neg (by have := head_byte s.data.toList 45; rw [show ((45 : UInt8).toNat : Int) = 45 from rfl] at this; rw [this]; simpa using hm)]
  exact bytes_inj hb
theorem trimIs (s : ByteArray) : ∃ t, t.data.toList = N.digits s.data.toList ∧ t.size ≤ s.size ∧ StrIs 28 s ⟨#[45]⟩ (.string t) := by
  obtain ⟨t, ht, h1, h2⟩ := trim_u s
  exact ⟨t, h1, h2, fun W => (strings_TrimPrefix.calls s ⟨#[45]⟩ t W ht).mono (fun e w' h => ⟨h.1, h.2.below⟩)⟩
theorem has_u (s : ByteArray) : strings_HasPrefix.f s (⟨#[45]⟩ : ByteArray) = some (negU s.data.toList) := by
  have e45 : (⟨#[45]⟩ : ByteArray).toList = [45] := by rw [Lib.toList_data]
  unfold negU
  by_cases h0 : s.size = 0
  · have hb : s.data.toList = [] := by
      rw [← List.length_eq_zero_iff, ← size_u]; exact h0
    simp only [strings_HasPrefix.f, stringslite_HasPrefix.f]
    rw [if_neg (by show ¬ ((s.size : Int) ≥ 1); omega), hb]
    rfl
  · simp only [strings_HasPrefix.f, stringslite_HasPrefix.f]
    rw [if_pos (by show (s.size : Int) ≥ 1; omega), if_pos (by show (0 : Int) ≤ 1; omega), if_pos (by show (1 : Int) ≤ s.size; omega)]
    simp only [Option.bind_some]
    congr 1
    show ((s.extract 0 1).toList == (⟨#[45]⟩ : ByteArray).toList) = _
    rw [e45, Lib.toList_data, Lib.extract_data, List.drop_zero, Nat.sub_zero]
    have hl : 0 < s.data.toList.length := by rw [← size_u]; omega
    match s.data.toList, hl with
    | c :: l, _ =>
      simp only [List.take_succ_cons, List.take_zero, List.head?_cons]
      rw [Bool.eq_iff_iff, beq_iff_eq, beq_iff_eq]
      simp
theorem hasIs (s : ByteArray) : StrIs 27 s ⟨#[45]⟩ (.bool (negU s.data.toList)) := fun W => (strings_HasPrefix.calls s ⟨#[45]⟩ _ W (has_u s)).mono (fun e w' h => ⟨h.1, h.2.below⟩)
/-- the digits of a numeral are a numeral: its size -/
theorem can_digits {l : List UInt8} (h : N.canU l = true) : N.canU (N.digits l) = true ∧ N.valU (N.digits l) = ((N.valU l).natAbs : Int) := by
  obtain ⟨h1, h2, h3, h4⟩ := N.can_open h
  have hd : (N.digits l).head? ≠ some 45 := by
    intro e
    match hm : N.digits l, h1 with
    | c :: m, _ =>
      rw [hm] at e h3
      simp at e
      subst e
      simp [N.digU] at h3
  have e1 : N.digits (N.digits l) = N.digits l := if_neg hd
  have hc : N.canU (N.digits l) = true := by
    unfold N.canU
    rw [e1]
    have a1 : (N.digits l).isEmpty = false := by simpa using h1
    have a2 : ((N.digits l).head? == some 45) = false := by rw [beq_eq_false_iff_ne]; exact hd
    rw [a1, a2, h3]
    by_cases hz : (N.digits l).head? = some 48
    · have := (h4 hz).1
      simp [h2, this]
    · simp [h2, hz]
  refine ⟨hc, ?_⟩
  obtain ⟨v1, v2⟩ := val_neg h
  obtain ⟨u1, u2⟩ := val_neg hc
  have hn : negU (N.digits l) = false := by
    unfold negU
    rw [beq_eq_false_iff_ne]; exact hd
  rw [u2 hn, e1]
  cases hneg : negU l
  · rw [v2 hneg]; rfl
  · rw [(v1 hneg).1]; omega
theorem negU_val {l : List UInt8} (h : N.canU l = true) : negU l = decide (N.valU l < 0) := by
  obtain ⟨v1, v2⟩ := val_neg h
  cases hn : negU l
  · rw [v2 hn]; simp
  · rw [(v1 hn).1]; have := (v1 hn).2; simp; omega
theorem ansQuo {a b s : ByteArray} {n : Int} (ha : a.size ≤ 9223372036854775807) (hb : b.size ≤ 9223372036854775807) (h : ansQ (partO Int.tdiv a b) = .tuple #[.string s, .int .i64 n]) : Ans 22 a b s n := fun W hW => h ▸ quo_calls a b ha hb W hW
theorem ansRem {a b s : ByteArray} {n : Int} (ha : a.size ≤ 9223372036854775807) (hb : b.size ≤ 9223372036854775807) (h : ansQ (partO Int.tmod a b) = .tuple #[.string s, .int .i64 n]) : Ans 24 a b s n := fun W hW => h ▸ rem_calls a b ha hb W hW
theorem itoa_ok {z : Int} {x : Int} (h : z.natAbs ≤ x.natAbs) (hx : x.natAbs < 10 ^ 200) : (Lib.decDigits z.natAbs).length ≤ 200 := N.dec_len _ 200 (by omega) (Nat.lt_of_le_of_lt h hx)
theorem baU_sz (z : Int) (h : (Lib.decDigits z.natAbs).length ≤ 200) : (baU (Lib.itoa z)).size ≤ 9223372036854775807 := by
  have h1 := (good_val h).1
  rw [baU_list] at h1
  have := can_len h1
  have e : (baU (Lib.itoa z)).size = (Lib.itoa z).length := by simp [baU, ByteArray.size]
  omega

theorem itoa_zero : Lib.itoa 0 = [48] := by
  have h := N.itoa_val (l := [48]) (by decide)
  rwa [show N.valU [48] = 0 from by decide] at h

theorem divides_calls (a b : ByteArray) (ha : a.size ≤ 9223372036854775807) (hb : b.size ≤ 9223372036854775807) (w : World) (hL : LaidW w) :
    Calls Tryd.prog 8 #[.string a, .string b] w fun e w' => e = .returned (.bool true) ∧ Below w.heap.size w w' := by
  by_cases hc : (N.canU a.data.toList && N.canU b.data.toList) = true
  case neg =>
    have hc' : (N.canU a.data.toList && N.canU b.data.toList) = false := by simpa using hc
    have hor : N.canU a.data.toList = false ∨ N.canU b.data.toList = false := Bool.and_eq_false_iff.1 hc'
    exact divides_bad a b _ _ hc' w hL ⟨ansQuo ha hb (by rw [partO_none hor]; rfl)⟩ ⟨ansRem ha hb (by rw [partO_none hor]; rfl)⟩ ⟨canIs a ha⟩ ⟨canIs b hb⟩
  obtain ⟨hca, hcb⟩ := Bool.and_eq_true_iff.1 hc
  have CA := canIs a ha
  rw [hca] at CA
  by_cases hz : limbsU b.data.toList = []
  · have hv := (limbs_nil hcb).1 hz
    have hb0 : b = ⟨#[48]⟩ := by
      have h1 := N.itoa_val hcb
      rw [hv, itoa_zero] at h1
      rw [ByteArray.ext_iff, ← Array.toList_inj, ← h1]
    exact divides_zero a b hb0 w hL ⟨ansQuo ha hb (by rw [partO_zero hca hcb hz]; rfl)⟩ ⟨ansRem ha hb (by rw [partO_zero hca hcb hz]; rfl)⟩ ⟨CA⟩
  have hy0 : N.valU b.data.toList ≠ 0 := fun h => hz ((limbs_nil hcb).2 h)
  have hxa := N.val_abs hca
  have hq1 := partO_some Int.tdiv hca hcb hz
  have hr1 := partO_some Int.tmod hca hcb hz
  have hxy := Int.mul_tdiv_add_tmod (N.valU a.data.toList) (N.valU b.data.toList)
  have habs := tmod_abs (N.valU a.data.toList) (N.valU b.data.toList)
  have hqbs := tdiv_abs (N.valU a.data.toList) (N.valU b.data.toList)
  have hsgn : Int.tmod (N.valU a.data.toList) (N.valU b.data.toList) ≠ 0 → (decide (Int.tmod (N.valU a.data.toList) (N.valU b.data.toList) < 0) = decide (N.valU a.data.toList < 0)) := by
    intro h
    rcases Int.lt_or_le (N.valU a.data.toList) 0 with hx | hx
    · have := Int.tmod_nonneg (a := -(N.valU a.data.toList)) (N.valU b.data.toList) (by omega)
      rw [Int.neg_tmod] at this
      rw [decide_eq_true (by omega), decide_eq_true hx]
    · have := Int.tmod_nonneg (a := N.valU a.data.toList) (N.valU b.data.toList) hx
      rw [decide_eq_false (by omega), decide_eq_false (by omega)]
  have hlt : (Int.tmod (N.valU a.data.toList) (N.valU b.data.toList)).natAbs < (N.valU b.data.toList).natAbs := by
    rw [Int.natAbs_tmod]; exact Nat.mod_lt _ (by omega)
  have hmulabs : (Int.tdiv (N.valU a.data.toList) (N.valU b.data.toList) * N.valU b.data.toList).natAbs ≤ (N.valU a.data.toList).natAbs := by
    rw [Int.natAbs_mul, Int.natAbs_tdiv]; exact Nat.div_mul_le_self _ _
  obtain ⟨Q, hQ⟩ : ∃ Q, Q = Int.tdiv (N.valU a.data.toList) (N.valU b.data.toList) := ⟨_, rfl⟩
  obtain ⟨R, hR⟩ : ∃ R, R = Int.tmod (N.valU a.data.toList) (N.valU b.data.toList) := ⟨_, rfl⟩
  rw [← hQ] at hq1 hxy hqbs hmulabs
  rw [← hR] at hr1 hxy habs hsgn hlt
  have dQ := itoa_ok hqbs hxa
  have dR := itoa_ok habs hxa
  have dM := itoa_ok hmulabs hxa
  have sQ := baU_sz Q dQ
  have sR := baU_sz R dR
  have sM := baU_sz _ dM
  obtain ⟨cQ, vQ⟩ := good_val dQ
  obtain ⟨cR, vR⟩ := good_val dR
  obtain ⟨cM, vM⟩ := good_val dM
  have HQ : Ans 22 a b (baU (Lib.itoa Q)) 0 := ansQuo ha hb (by rw [hq1]; exact ansV_ok dQ)
  have HR : Ans 24 a b (baU (Lib.itoa R)) 0 := ansRem ha hb (by rw [hr1]; exact ansV_ok dR)
  have HM : Ans 16 (baU (Lib.itoa Q)) b (baU (Lib.itoa (Q * N.valU b.data.toList))) 0 := ansMul sQ hb (by rw [opO_some cQ hcb, vQ]; exact ansV_ok dM)
  have HA : Ans 15 (baU (Lib.itoa (Q * N.valU b.data.toList))) (baU (Lib.itoa R)) a 0 := ansAdd sM sR (by
    rw [opO_some cM cR, vM, vR]
    have e : Q * N.valU b.data.toList + R = N.valU a.data.toList := by rw [Int.mul_comm]; exact hxy
    show ansV (some (Q * N.valU b.data.toList + R)) = _
    rw [e, ansV_ok (itoa_ok (Nat.le_refl _) hxa), N.itoa_val hca, baU_self])
  obtain ⟨tr, tr1, tr2, TR⟩ := trimIs (baU (Lib.itoa R))
  obtain ⟨tb, tb1, tb2, TB⟩ := trimIs b
  have CM : ∀ W : World, Calls Tryd.prog 21 #[.string tr, .string tb] W fun e w' => e = .returned (.tuple #[.int .i64 (-1), .int .i64 0]) ∧ Below W.heap.size W w' := fun W => by
    have h := compare_calls tr tb (by omega) (by omega) W
    have e : cmpO tr tb = (-1, 0) := by
      obtain ⟨d1, d2⟩ := can_digits cR
      obtain ⟨d3, d4⟩ := can_digits hcb
      unfold cmpO
      rw [tr1, tb1, if_pos ⟨d1, d3⟩, d2, d4, vR]
      unfold cmpI
      rw [if_pos (by omega)]
    rw [e] at h
    exact h
  by_cases hR0 : R = 0
  · have er : baU (Lib.itoa R) = ⟨#[48]⟩ := by rw [hR0, itoa_zero]; rfl
    rw [er] at HR HA TR
    exact divides_0 a b _ _ tr tb w hL ⟨HQ⟩ ⟨HR⟩ ⟨HM⟩ ⟨HA⟩ ⟨TR⟩ ⟨TB⟩ ⟨CM⟩
  · have hr : baU (Lib.itoa R) ≠ ⟨#[48]⟩ := fun e => by
      rw [e] at vR
      have : N.valU (⟨#[48]⟩ : ByteArray).data.toList = 0 := by decide
      omega
    have hn : negU (baU (Lib.itoa R)).data.toList = negU a.data.toList := by
      rw [negU_val cR, negU_val hca, vR]; exact hsgn hR0
    have PR := hasIs (baU (Lib.itoa R))
    rw [hn] at PR
    exact divides_1 a b _ _ _ tr tb _ hr w hL ⟨HQ⟩ ⟨HR⟩ ⟨HM⟩ ⟨HA⟩ ⟨TR⟩ ⟨TB⟩ ⟨CM⟩ ⟨PR⟩ ⟨hasIs a⟩
end Go.Proofs.YtlnneellihkdkaaDoor.D
