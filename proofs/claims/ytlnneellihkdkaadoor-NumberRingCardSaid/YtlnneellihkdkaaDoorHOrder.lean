/- NumberOrder: the law's walk. -/
import Derived.Test.YtlnneellihkdkaaDoorDx1
import Derived.Test.YtlnneellihkdkaaDoorHCompare
namespace Go.Proofs.YtlnneellihkdkaaDoor.D
open Go Go.Proofs Go.RowKit Go.Shelf Go.Proofs.YtlnneellihkdkaaDoorW.PrintWords Go.Proofs.YtlnneellihkdkaaDoorW.PrintLast Go.Proofs.YtlnneellihkdkaaDoorW.PrintMore
set_option linter.unusedVariables false
set_option linter.unusedSimpArgs false

abbrev Ans (f : Nat) (a b : ByteArray) (s : ByteArray) (n : Int) : Prop := ∀ W : World, LaidW W → Calls Tryd.prog f #[.string a, .string b] W fun e w' => e = .returned (.tuple #[.string s, .int .i64 n]) ∧ Below W.heap.size W w'
abbrev CanIs (a : ByteArray) (b : Bool) : Prop := ∀ W : World, Calls Tryd.prog 12 #[.string a] W fun e w' => e = .returned (.bool b) ∧ Below W.heap.size W w'
theorem canIs (a : ByteArray) (ha : a.size ≤ 9223372036854775807) : CanIs a (N.canU a.data.toList) := fun W => by
  obtain ⟨k, hk⟩ := Ev.rounds (can_prog_u a ha)
  exact (number_Can.calls k a _ W hk).mono (fun e w' h => ⟨h.1, h.2.below⟩)
theorem ansV_form (o : Option Int) : ∃ s n, ansV o = .tuple #[.string s, .int .i64 n] := by
  cases o with
  | none => exact ⟨_, _, rfl⟩
  | some z =>
    by_cases h : (Lib.decDigits z.natAbs).length ≤ 200
    · exact ⟨_, _, ansV_ok h⟩
    · exact ⟨_, _, ansV_big h⟩
theorem ansAdd {a b s : ByteArray} {n : Int} (ha : a.size ≤ 9223372036854775807) (hb : b.size ≤ 9223372036854775807) (h : ansV (opO (· + ·) a b) = .tuple #[.string s, .int .i64 n]) : Ans 15 a b s n := fun W hW => h ▸ add_calls a b ha hb W hW
theorem ansSub {a b s : ByteArray} {n : Int} (ha : a.size ≤ 9223372036854775807) (hb : b.size ≤ 9223372036854775807) (h : ansV (opO (· - ·) a b) = .tuple #[.string s, .int .i64 n]) : Ans 18 a b s n := fun W hW => h ▸ sub_calls a b ha hb W hW
theorem ansMul {a b s : ByteArray} {n : Int} (ha : a.size ≤ 9223372036854775807) (hb : b.size ≤ 9223372036854775807) (h : ansV (opO (· * ·) a b) = .tuple #[.string s, .int .i64 n]) : Ans 16 a b s n := fun W hW => h ▸ mul_calls a b ha hb W hW
theorem opO_comm {f : Int → Int → Int} (hf : ∀ x y, f x y = f y x) (a b : ByteArray) : opO f a b = opO f b a := by
  unfold opO
  cases valO a <;> cases valO b <;> simp [hf]

set_option maxRecDepth 100000 in
set_option maxHeartbeats 4000000 in
theorem order_bad (a b : ByteArray) (ca cb : Bool) (hc : (ca && cb) = false) (p : ByteArray) (g : Int) (w : World) (hL : LaidW w) (HAB : Aside0 (Ans 15 a b ⟨#[]⟩ 90)) (HBA : Aside0 (Ans 15 b a ⟨#[]⟩ 90)) (MAB : Aside0 (Ans 16 a b p g)) (MBA : Aside0 (Ans 16 b a p g)) (CA : Aside0 (CanIs a ca)) (CB : Aside0 (CanIs b cb)) :
    Calls Tryd.prog 6 #[.string a, .string b] w fun e w' => e = .returned (.bool true) ∧ Below w.heap.size w w' := by
  have HL := Aside0.mk hL
  have HB := Aside0.mk (Below.refl w.heap.size w)
  clear hL
  cases ca <;> cases cb
  all_goals try (exact absurd hc (by decide))
  all_goals go_enter Tryd.func6, Tryd.ntmps6
  all_goals go_wp2_with
    (first
    | (go_at_call 15; with_reducible refine (HAB.out _ (HL.out.below HB.out (Nat.le_refl _))).mono ?_; rintro e w1 ⟨rfl, hB1⟩; have n_ := Aside0.mk (HB.out.trans (hB1.mono HB.out.size)); clear HB hB1; have HB := n_; clear n_)
    | (go_at_call 15; with_reducible refine (HBA.out _ (HL.out.below HB.out (Nat.le_refl _))).mono ?_; rintro e w1 ⟨rfl, hB1⟩; have n_ := Aside0.mk (HB.out.trans (hB1.mono HB.out.size)); clear HB hB1; have HB := n_; clear n_)
    | (go_at_call 16; with_reducible refine (MAB.out _ (HL.out.below HB.out (Nat.le_refl _))).mono ?_; rintro e w1 ⟨rfl, hB1⟩; have n_ := Aside0.mk (HB.out.trans (hB1.mono HB.out.size)); clear HB hB1; have HB := n_; clear n_)
    | (go_at_call 16; with_reducible refine (MBA.out _ (HL.out.below HB.out (Nat.le_refl _))).mono ?_; rintro e w1 ⟨rfl, hB1⟩; have n_ := Aside0.mk (HB.out.trans (hB1.mono HB.out.size)); clear HB hB1; have HB := n_; clear n_)
    | (go_at_call 12; with_reducible refine (CA.out _).mono ?_; rintro e w1 ⟨rfl, hB1⟩; have n_ := Aside0.mk (HB.out.trans (hB1.mono HB.out.size)); clear HB hB1; have HB := n_; clear n_)
    | (go_at_call 12; with_reducible refine (CB.out _).mono ?_; rintro e w1 ⟨rfl, hB1⟩; have n_ := Aside0.mk (HB.out.trans (hB1.mono HB.out.size)); clear HB hB1; have HB := n_; clear n_))
  all_goals go_ret
  all_goals exact ⟨rfl, HB.out⟩

set_option maxRecDepth 100000 in
set_option maxHeartbeats 4000000 in
theorem order_big (a b : ByteArray) (p : ByteArray) (g : Int) (w : World) (hL : LaidW w) (HAB : Aside0 (Ans 15 a b ⟨#[]⟩ 91)) (HBA : Aside0 (Ans 15 b a ⟨#[]⟩ 91)) (MAB : Aside0 (Ans 16 a b p g)) (MBA : Aside0 (Ans 16 b a p g)) (CA : Aside0 (CanIs a true)) (CB : Aside0 (CanIs b true)) :
    Calls Tryd.prog 6 #[.string a, .string b] w fun e w' => e = .returned (.bool true) ∧ Below w.heap.size w w' := by
  have HL := Aside0.mk hL
  have HB := Aside0.mk (Below.refl w.heap.size w)
  clear hL
  go_enter Tryd.func6, Tryd.ntmps6
  go_wp2_with
    (first
    | (go_at_call 15; with_reducible refine (HAB.out _ (HL.out.below HB.out (Nat.le_refl _))).mono ?_; rintro e w1 ⟨rfl, hB1⟩; have n_ := Aside0.mk (HB.out.trans (hB1.mono HB.out.size)); clear HB hB1; have HB := n_; clear n_)
    | (go_at_call 15; with_reducible refine (HBA.out _ (HL.out.below HB.out (Nat.le_refl _))).mono ?_; rintro e w1 ⟨rfl, hB1⟩; have n_ := Aside0.mk (HB.out.trans (hB1.mono HB.out.size)); clear HB hB1; have HB := n_; clear n_)
    | (go_at_call 16; with_reducible refine (MAB.out _ (HL.out.below HB.out (Nat.le_refl _))).mono ?_; rintro e w1 ⟨rfl, hB1⟩; have n_ := Aside0.mk (HB.out.trans (hB1.mono HB.out.size)); clear HB hB1; have HB := n_; clear n_)
    | (go_at_call 16; with_reducible refine (MBA.out _ (HL.out.below HB.out (Nat.le_refl _))).mono ?_; rintro e w1 ⟨rfl, hB1⟩; have n_ := Aside0.mk (HB.out.trans (hB1.mono HB.out.size)); clear HB hB1; have HB := n_; clear n_)
    | (go_at_call 12; with_reducible refine (CA.out _).mono ?_; rintro e w1 ⟨rfl, hB1⟩; have n_ := Aside0.mk (HB.out.trans (hB1.mono HB.out.size)); clear HB hB1; have HB := n_; clear n_)
    | (go_at_call 12; with_reducible refine (CB.out _).mono ?_; rintro e w1 ⟨rfl, hB1⟩; have n_ := Aside0.mk (HB.out.trans (hB1.mono HB.out.size)); clear HB hB1; have HB := n_; clear n_))
  all_goals go_ret
  all_goals exact ⟨rfl, HB.out⟩

set_option maxRecDepth 100000 in
set_option maxHeartbeats 4000000 in
theorem order_good (a b s : ByteArray) (p : ByteArray) (g : Int) (w : World) (hL : LaidW w) (HAB : Aside0 (Ans 15 a b s 0)) (HBA : Aside0 (Ans 15 b a s 0)) (MAB : Aside0 (Ans 16 a b p g)) (MBA : Aside0 (Ans 16 b a p g)) (CA : Aside0 (CanIs a true)) (CB : Aside0 (CanIs b true))
    (SB : Aside0 (Ans 18 s b a 0)) (CC : Aside0 (∀ W : World, Calls Tryd.prog 21 #[.string a, .string a] W fun e w' => e = .returned (.tuple #[.int .i64 0, .int .i64 0]) ∧ Below W.heap.size W w')) :
    Calls Tryd.prog 6 #[.string a, .string b] w fun e w' => e = .returned (.bool true) ∧ Below w.heap.size w w' := by
  have HL := Aside0.mk hL
  have HB := Aside0.mk (Below.refl w.heap.size w)
  clear hL
  go_enter Tryd.func6, Tryd.ntmps6
  go_wp2_with
    (first
    | (go_at_call 15; with_reducible refine (HAB.out _ (HL.out.below HB.out (Nat.le_refl _))).mono ?_; rintro e w1 ⟨rfl, hB1⟩; have n_ := Aside0.mk (HB.out.trans (hB1.mono HB.out.size)); clear HB hB1; have HB := n_; clear n_)
    | (go_at_call 15; with_reducible refine (HBA.out _ (HL.out.below HB.out (Nat.le_refl _))).mono ?_; rintro e w1 ⟨rfl, hB1⟩; have n_ := Aside0.mk (HB.out.trans (hB1.mono HB.out.size)); clear HB hB1; have HB := n_; clear n_)
    | (go_at_call 16; with_reducible refine (MAB.out _ (HL.out.below HB.out (Nat.le_refl _))).mono ?_; rintro e w1 ⟨rfl, hB1⟩; have n_ := Aside0.mk (HB.out.trans (hB1.mono HB.out.size)); clear HB hB1; have HB := n_; clear n_)
    | (go_at_call 16; with_reducible refine (MBA.out _ (HL.out.below HB.out (Nat.le_refl _))).mono ?_; rintro e w1 ⟨rfl, hB1⟩; have n_ := Aside0.mk (HB.out.trans (hB1.mono HB.out.size)); clear HB hB1; have HB := n_; clear n_)
    | (go_at_call 12; with_reducible refine (CA.out _).mono ?_; rintro e w1 ⟨rfl, hB1⟩; have n_ := Aside0.mk (HB.out.trans (hB1.mono HB.out.size)); clear HB hB1; have HB := n_; clear n_)
    | (go_at_call 12; with_reducible refine (CB.out _).mono ?_; rintro e w1 ⟨rfl, hB1⟩; have n_ := Aside0.mk (HB.out.trans (hB1.mono HB.out.size)); clear HB hB1; have HB := n_; clear n_)
    | (go_at_call 18; with_reducible refine (SB.out _ (HL.out.below HB.out (Nat.le_refl _))).mono ?_; rintro e w1 ⟨rfl, hB1⟩; have n_ := Aside0.mk (HB.out.trans (hB1.mono HB.out.size)); clear HB hB1; have HB := n_; clear n_)
    | (go_at_call 21; with_reducible refine (CC.out _).mono ?_; rintro e w1 ⟨rfl, hB1⟩; have n_ := Aside0.mk (HB.out.trans (hB1.mono HB.out.size)); clear HB hB1; have HB := n_; clear n_))
  all_goals go_ret
  all_goals exact ⟨rfl, HB.out⟩

theorem order_calls (a b : ByteArray) (ha : a.size ≤ 9223372036854775807) (hb : b.size ≤ 9223372036854775807) (w : World) (hL : LaidW w) :
    Calls Tryd.prog 6 #[.string a, .string b] w fun e w' => e = .returned (.bool true) ∧ Below w.heap.size w w' := by
  obtain ⟨p, g, hm⟩ := ansV_form (opO (· * ·) a b)
  have hm' : ansV (opO (· * ·) b a) = .tuple #[.string p, .int .i64 g] := by rw [← hm]; congr 1; exact opO_comm (fun x y => Int.mul_comm x y) b a
  have hcm : opO (· + ·) b a = opO (· + ·) a b := opO_comm (fun x y => Int.add_comm x y) b a
  by_cases hc : (N.canU a.data.toList && N.canU b.data.toList) = true
  · obtain ⟨hca, hcb⟩ := Bool.and_eq_true_iff.1 hc
    have ho : opO (· + ·) a b = some (N.valU a.data.toList + N.valU b.data.toList) := opO_some hca hcb
    have CA := canIs a ha
    have CB := canIs b hb
    rw [hca] at CA
    rw [hcb] at CB
    by_cases h2 : (Lib.decDigits (N.valU a.data.toList + N.valU b.data.toList).natAbs).length ≤ 200
    · have h1 : ansV (opO (· + ·) a b) = .tuple #[.string (baU (Lib.itoa (N.valU a.data.toList + N.valU b.data.toList))), .int .i64 0] := by rw [ho]; exact ansV_ok h2
      have hab : (N.valU a.data.toList + N.valU b.data.toList).natAbs < 10 ^ 200 := by
        have := N.dv_lt _ (N.dec_all (N.valU a.data.toList + N.valU b.data.toList).natAbs)
        rw [N.dv_dec] at this
        exact Nat.lt_of_lt_of_le this (Nat.pow_le_pow_right (by omega) h2)
      obtain ⟨hs1, hs2⟩ := N.can_itoa _ hab
      have hsz : (baU (Lib.itoa (N.valU a.data.toList + N.valU b.data.toList))).size ≤ 9223372036854775807 := by
        have := can_len hs1
        have e : (baU (Lib.itoa (N.valU a.data.toList + N.valU b.data.toList))).size = (Lib.itoa (N.valU a.data.toList + N.valU b.data.toList)).length := by simp [baU, ByteArray.size]
        omega
      have hsub : ansV (opO (· - ·) (baU (Lib.itoa (N.valU a.data.toList + N.valU b.data.toList))) b) = .tuple #[.string a, .int .i64 0] := by
        rw [opO_some (by rw [baU_list]; exact hs1) hcb, baU_list, hs2]
        have e : N.valU a.data.toList + N.valU b.data.toList - N.valU b.data.toList = N.valU a.data.toList := by omega
        have hd : (Lib.decDigits (N.valU a.data.toList).natAbs).length ≤ 200 := N.dec_len _ 200 (by omega) (N.val_abs hca)
        show ansV (some (N.valU a.data.toList + N.valU b.data.toList - N.valU b.data.toList)) = _
        rw [e, ansV_ok hd, N.itoa_val hca, baU_self]
      exact order_good a b _ p g w hL ⟨ansAdd ha hb h1⟩ ⟨ansAdd hb ha (by rw [hcm]; exact h1)⟩ ⟨ansMul ha hb hm⟩ ⟨ansMul hb ha hm'⟩ ⟨CA⟩ ⟨CB⟩ ⟨ansSub hsz hb hsub⟩ ⟨fun W => compare_same a ha hca W⟩
    · have h1 : ansV (opO (· + ·) a b) = .tuple #[.string ⟨#[]⟩, .int .i64 91] := by rw [ho]; exact ansV_big h2
      exact order_big a b p g w hL ⟨ansAdd ha hb h1⟩ ⟨ansAdd hb ha (by rw [hcm]; exact h1)⟩ ⟨ansMul ha hb hm⟩ ⟨ansMul hb ha hm'⟩ ⟨CA⟩ ⟨CB⟩
  · have hc' : (N.canU a.data.toList && N.canU b.data.toList) = false := by simpa using hc
    have ho : opO (· + ·) a b = none := by
      cases hca : N.canU a.data.toList
      · exact opO_none_l hca
      · rw [hca] at hc'
        exact opO_none_r (by simpa using hc')
    have h1 : ansV (opO (· + ·) a b) = .tuple #[.string ⟨#[]⟩, .int .i64 90] := by rw [ho]; rfl
    exact order_bad a b _ _ hc' p g w hL ⟨ansAdd ha hb h1⟩ ⟨ansAdd hb ha (by rw [hcm]; exact h1)⟩ ⟨ansMul ha hb hm⟩ ⟨ansMul hb ha hm'⟩ ⟨canIs a ha⟩ ⟨canIs b hb⟩
end Go.Proofs.YtlnneellihkdkaaDoor.D
