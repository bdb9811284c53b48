/- NumberRing: the law's walk. -/
import Derived.Test.YtlnneellihkdkaaDoorDx19
import Derived.Test.YtlnneellihkdkaaDoorHOrder
import Derived.Test.YtlnneellihkdkaaDoorHRefC
namespace Go.Proofs.YtlnneellihkdkaaDoor.D
open Go Go.Proofs Go.RowKit Go.Shelf Go.Proofs.YtlnneellihkdkaaDoorW.PrintWords Go.Proofs.YtlnneellihkdkaaDoorW.PrintLast Go.Proofs.YtlnneellihkdkaaDoorW.PrintMore
set_option linter.unusedVariables false
set_option linter.unusedSimpArgs false

set_option maxRecDepth 100000 in
set_option maxHeartbeats 4000000 in
theorem ring_n (a b c s x p q y : ByteArray) (n f g h m : Int) (h0 : n ≠ 0) (w : World) (hL : LaidW w) (HBC : Aside0 (Ans 15 b c s n)) (MAS : Aside0 (Ans 16 a s x f)) (MAB : Aside0 (Ans 16 a b p g)) (MAC : Aside0 (Ans 16 a c q h)) (RBC : Aside0 (∀ W : World, Calls Tryd.prog 17 #[.string b, .string c] W fun e w' => e = .returned (.tuple #[.string s, .int .i64 n]) ∧ Below W.heap.size W w')) :
    Calls Tryd.prog 4 #[.string a, .string b, .string c] w fun e w' => e = .returned (.bool true) ∧ Below w.heap.size w w' := by
  have HL := Aside0.mk hL
  have HB := Aside0.mk (Below.refl w.heap.size w)
  clear hL
  have e1 : (n == 0) = false := by simpa using h0
  have e2 : (n != 0) = true := by simpa using h0
  clear h0
  go_enter Tryd.func4, Tryd.ntmps4
  go_wp2_with
    (first
    | (go_at_call 15; with_reducible refine (HBC.out _ (HL.out.below HB.out (Nat.le_refl _))).mono ?_; rintro e w1 ⟨rfl, hB1⟩; have n_ := Aside0.mk (HB.out.trans (hB1.mono HB.out.size)); clear HB hB1; have HB := n_; clear n_)
    | (go_at_call 16; with_reducible refine (MAS.out _ (HL.out.below HB.out (Nat.le_refl _))).mono ?_; rintro e w1 ⟨rfl, hB1⟩; have n_ := Aside0.mk (HB.out.trans (hB1.mono HB.out.size)); clear HB hB1; have HB := n_; clear n_)
    | (go_at_call 16; with_reducible refine (MAB.out _ (HL.out.below HB.out (Nat.le_refl _))).mono ?_; rintro e w1 ⟨rfl, hB1⟩; have n_ := Aside0.mk (HB.out.trans (hB1.mono HB.out.size)); clear HB hB1; have HB := n_; clear n_)
    | (go_at_call 16; with_reducible refine (MAC.out _ (HL.out.below HB.out (Nat.le_refl _))).mono ?_; rintro e w1 ⟨rfl, hB1⟩; have n_ := Aside0.mk (HB.out.trans (hB1.mono HB.out.size)); clear HB hB1; have HB := n_; clear n_)
    | (go_at_call 17; with_reducible refine (RBC.out _).mono ?_; rintro e w1 ⟨rfl, hB1⟩; have n_ := Aside0.mk (HB.out.trans (hB1.mono HB.out.size)); clear HB hB1; have HB := n_; clear n_))
  all_goals go_ret
  all_goals exact ⟨rfl, HB.out⟩

set_option maxRecDepth 100000 in
set_option maxHeartbeats 4000000 in
theorem ring_f (a b c s x p q y : ByteArray) (n f g h m : Int) (h0 : f ≠ 0) (w : World) (hL : LaidW w) (HBC : Aside0 (Ans 15 b c s 0)) (MAS : Aside0 (Ans 16 a s x f)) (MAB : Aside0 (Ans 16 a b p g)) (MAC : Aside0 (Ans 16 a c q h)) (RBC : Aside0 (∀ W : World, Calls Tryd.prog 17 #[.string b, .string c] W fun e w' => e = .returned (.tuple #[.string s, .int .i64 0]) ∧ Below W.heap.size W w')) :
    Calls Tryd.prog 4 #[.string a, .string b, .string c] w fun e w' => e = .returned (.bool true) ∧ Below w.heap.size w w' := by
  have HL := Aside0.mk hL
  have HB := Aside0.mk (Below.refl w.heap.size w)
  clear hL
  have e1 : (f == 0) = false := by simpa using h0
  have e2 : (f != 0) = true := by simpa using h0
  clear h0
  go_enter Tryd.func4, Tryd.ntmps4
  go_wp2_with
    (first
    | (go_at_call 15; with_reducible refine (HBC.out _ (HL.out.below HB.out (Nat.le_refl _))).mono ?_; rintro e w1 ⟨rfl, hB1⟩; have n_ := Aside0.mk (HB.out.trans (hB1.mono HB.out.size)); clear HB hB1; have HB := n_; clear n_)
    | (go_at_call 16; with_reducible refine (MAS.out _ (HL.out.below HB.out (Nat.le_refl _))).mono ?_; rintro e w1 ⟨rfl, hB1⟩; have n_ := Aside0.mk (HB.out.trans (hB1.mono HB.out.size)); clear HB hB1; have HB := n_; clear n_)
    | (go_at_call 16; with_reducible refine (MAB.out _ (HL.out.below HB.out (Nat.le_refl _))).mono ?_; rintro e w1 ⟨rfl, hB1⟩; have n_ := Aside0.mk (HB.out.trans (hB1.mono HB.out.size)); clear HB hB1; have HB := n_; clear n_)
    | (go_at_call 16; with_reducible refine (MAC.out _ (HL.out.below HB.out (Nat.le_refl _))).mono ?_; rintro e w1 ⟨rfl, hB1⟩; have n_ := Aside0.mk (HB.out.trans (hB1.mono HB.out.size)); clear HB hB1; have HB := n_; clear n_)
    | (go_at_call 17; with_reducible refine (RBC.out _).mono ?_; rintro e w1 ⟨rfl, hB1⟩; have n_ := Aside0.mk (HB.out.trans (hB1.mono HB.out.size)); clear HB hB1; have HB := n_; clear n_))
  all_goals go_ret
  all_goals exact ⟨rfl, HB.out⟩

set_option maxRecDepth 100000 in
set_option maxHeartbeats 4000000 in
theorem ring_g (a b c s x p q y : ByteArray) (n f g h m : Int) (h0 : g ≠ 0) (w : World) (hL : LaidW w) (HBC : Aside0 (Ans 15 b c s 0)) (MAS : Aside0 (Ans 16 a s x 0)) (MAB : Aside0 (Ans 16 a b p g)) (MAC : Aside0 (Ans 16 a c q h)) (RBC : Aside0 (∀ W : World, Calls Tryd.prog 17 #[.string b, .string c] W fun e w' => e = .returned (.tuple #[.string s, .int .i64 0]) ∧ Below W.heap.size W w')) :
    Calls Tryd.prog 4 #[.string a, .string b, .string c] w fun e w' => e = .returned (.bool true) ∧ Below w.heap.size w w' := by
  have HL := Aside0.mk hL
  have HB := Aside0.mk (Below.refl w.heap.size w)
  clear hL
  have e1 : (g == 0) = false := by simpa using h0
  have e2 : (g != 0) = true := by simpa using h0
  clear h0
  go_enter Tryd.func4, Tryd.ntmps4
  go_wp2_with
    (first
    | (go_at_call 15; with_reducible refine (HBC.out _ (HL.out.below HB.out (Nat.le_refl _))).mono ?_; rintro e w1 ⟨rfl, hB1⟩; have n_ := Aside0.mk (HB.out.trans (hB1.mono HB.out.size)); clear HB hB1; have HB := n_; clear n_)
    | (go_at_call 16; with_reducible refine (MAS.out _ (HL.out.below HB.out (Nat.le_refl _))).mono ?_; rintro e w1 ⟨rfl, hB1⟩; have n_ := Aside0.mk (HB.out.trans (hB1.mono HB.out.size)); clear HB hB1; have HB := n_; clear n_)
    | (go_at_call 16; with_reducible refine (MAB.out _ (HL.out.below HB.out (Nat.le_refl _))).mono ?_; rintro e w1 ⟨rfl, hB1⟩; have n_ := Aside0.mk (HB.out.trans (hB1.mono HB.out.size)); clear HB hB1; have HB := n_; clear n_)
    | (go_at_call 16; with_reducible refine (MAC.out _ (HL.out.below HB.out (Nat.le_refl _))).mono ?_; rintro e w1 ⟨rfl, hB1⟩; have n_ := Aside0.mk (HB.out.trans (hB1.mono HB.out.size)); clear HB hB1; have HB := n_; clear n_)
    | (go_at_call 17; with_reducible refine (RBC.out _).mono ?_; rintro e w1 ⟨rfl, hB1⟩; have n_ := Aside0.mk (HB.out.trans (hB1.mono HB.out.size)); clear HB hB1; have HB := n_; clear n_))
  all_goals go_ret
  all_goals exact ⟨rfl, HB.out⟩

set_option maxRecDepth 100000 in
set_option maxHeartbeats 4000000 in
theorem ring_h (a b c s x p q y : ByteArray) (n f g h m : Int) (h0 : h ≠ 0) (w : World) (hL : LaidW w) (HBC : Aside0 (Ans 15 b c s 0)) (MAS : Aside0 (Ans 16 a s x 0)) (MAB : Aside0 (Ans 16 a b p 0)) (MAC : Aside0 (Ans 16 a c q h)) (RBC : Aside0 (∀ W : World, Calls Tryd.prog 17 #[.string b, .string c] W fun e w' => e = .returned (.tuple #[.string s, .int .i64 0]) ∧ Below W.heap.size W w')) :
    Calls Tryd.prog 4 #[.string a, .string b, .string c] w fun e w' => e = .returned (.bool true) ∧ Below w.heap.size w w' := by
  have HL := Aside0.mk hL
  have HB := Aside0.mk (Below.refl w.heap.size w)
  clear hL
  have e1 : (h == 0) = false := by simpa using h0
  have e2 : (h != 0) = true := by simpa using h0
  clear h0
  go_enter Tryd.func4, Tryd.ntmps4
  go_wp2_with
    (first
    | (go_at_call 15; with_reducible refine (HBC.out _ (HL.out.below HB.out (Nat.le_refl _))).mono ?_; rintro e w1 ⟨rfl, hB1⟩; have n_ := Aside0.mk (HB.out.trans (hB1.mono HB.out.size)); clear HB hB1; have HB := n_; clear n_)
    | (go_at_call 16; with_reducible refine (MAS.out _ (HL.out.below HB.out (Nat.le_refl _))).mono ?_; rintro e w1 ⟨rfl, hB1⟩; have n_ := Aside0.mk (HB.out.trans (hB1.mono HB.out.size)); clear HB hB1; have HB := n_; clear n_)
    | (go_at_call 16; with_reducible refine (MAB.out _ (HL.out.below HB.out (Nat.le_refl _))).mono ?_; rintro e w1 ⟨rfl, hB1⟩; have n_ := Aside0.mk (HB.out.trans (hB1.mono HB.out.size)); clear HB hB1; have HB := n_; clear n_)
    | (go_at_call 16; with_reducible refine (MAC.out _ (HL.out.below HB.out (Nat.le_refl _))).mono ?_; rintro e w1 ⟨rfl, hB1⟩; have n_ := Aside0.mk (HB.out.trans (hB1.mono HB.out.size)); clear HB hB1; have HB := n_; clear n_)
    | (go_at_call 17; with_reducible refine (RBC.out _).mono ?_; rintro e w1 ⟨rfl, hB1⟩; have n_ := Aside0.mk (HB.out.trans (hB1.mono HB.out.size)); clear HB hB1; have HB := n_; clear n_))
  all_goals go_ret
  all_goals exact ⟨rfl, HB.out⟩

set_option maxRecDepth 100000 in
set_option maxHeartbeats 4000000 in
theorem ring_m (a b c s x p q y : ByteArray) (n f g h m : Int) (h0 : m ≠ 0) (w : World) (hL : LaidW w) (HBC : Aside0 (Ans 15 b c s 0)) (MAS : Aside0 (Ans 16 a s x 0)) (MAB : Aside0 (Ans 16 a b p 0)) (MAC : Aside0 (Ans 16 a c q 0)) (RBC : Aside0 (∀ W : World, Calls Tryd.prog 17 #[.string b, .string c] W fun e w' => e = .returned (.tuple #[.string s, .int .i64 0]) ∧ Below W.heap.size W w')) (HPQ : Aside0 (Ans 15 p q y m)) :
    Calls Tryd.prog 4 #[.string a, .string b, .string c] w fun e w' => e = .returned (.bool true) ∧ Below w.heap.size w w' := by
  have HL := Aside0.mk hL
  have HB := Aside0.mk (Below.refl w.heap.size w)
  clear hL
  have e1 : (m == 0) = false := by simpa using h0
  have e2 : (m != 0) = true := by simpa using h0
  clear h0
  go_enter Tryd.func4, Tryd.ntmps4
  go_wp2_with
    (first
    | (go_at_call 15; with_reducible refine (HBC.out _ (HL.out.below HB.out (Nat.le_refl _))).mono ?_; rintro e w1 ⟨rfl, hB1⟩; have n_ := Aside0.mk (HB.out.trans (hB1.mono HB.out.size)); clear HB hB1; have HB := n_; clear n_)
    | (go_at_call 16; with_reducible refine (MAS.out _ (HL.out.below HB.out (Nat.le_refl _))).mono ?_; rintro e w1 ⟨rfl, hB1⟩; have n_ := Aside0.mk (HB.out.trans (hB1.mono HB.out.size)); clear HB hB1; have HB := n_; clear n_)
    | (go_at_call 16; with_reducible refine (MAB.out _ (HL.out.below HB.out (Nat.le_refl _))).mono ?_; rintro e w1 ⟨rfl, hB1⟩; have n_ := Aside0.mk (HB.out.trans (hB1.mono HB.out.size)); clear HB hB1; have HB := n_; clear n_)
    | (go_at_call 16; with_reducible refine (MAC.out _ (HL.out.below HB.out (Nat.le_refl _))).mono ?_; rintro e w1 ⟨rfl, hB1⟩; have n_ := Aside0.mk (HB.out.trans (hB1.mono HB.out.size)); clear HB hB1; have HB := n_; clear n_)
    | (go_at_call 17; with_reducible refine (RBC.out _).mono ?_; rintro e w1 ⟨rfl, hB1⟩; have n_ := Aside0.mk (HB.out.trans (hB1.mono HB.out.size)); clear HB hB1; have HB := n_; clear n_)
    | (go_at_call 15; with_reducible refine (HPQ.out _ (HL.out.below HB.out (Nat.le_refl _))).mono ?_; rintro e w1 ⟨rfl, hB1⟩; have n_ := Aside0.mk (HB.out.trans (hB1.mono HB.out.size)); clear HB hB1; have HB := n_; clear n_))
  all_goals go_ret
  all_goals exact ⟨rfl, HB.out⟩

set_option maxRecDepth 100000 in
set_option maxHeartbeats 4000000 in
theorem ring_0 (a b c s x p q y : ByteArray) (n f g h m : Int) (w : World) (hL : LaidW w) (HBC : Aside0 (Ans 15 b c s 0)) (MAS : Aside0 (Ans 16 a s x 0)) (MAB : Aside0 (Ans 16 a b p 0)) (MAC : Aside0 (Ans 16 a c q 0)) (RBC : Aside0 (∀ W : World, Calls Tryd.prog 17 #[.string b, .string c] W fun e w' => e = .returned (.tuple #[.string s, .int .i64 0]) ∧ Below W.heap.size W w')) (HPQ : Aside0 (Ans 15 p q x 0)) :
    Calls Tryd.prog 4 #[.string a, .string b, .string c] w fun e w' => e = .returned (.bool true) ∧ Below w.heap.size w w' := by
  have HL := Aside0.mk hL
  have HB := Aside0.mk (Below.refl w.heap.size w)
  clear hL
  go_enter Tryd.func4, Tryd.ntmps4
  go_wp2_with
    (first
    | (go_at_call 15; with_reducible refine (HBC.out _ (HL.out.below HB.out (Nat.le_refl _))).mono ?_; rintro e w1 ⟨rfl, hB1⟩; have n_ := Aside0.mk (HB.out.trans (hB1.mono HB.out.size)); clear HB hB1; have HB := n_; clear n_)
    | (go_at_call 16; with_reducible refine (MAS.out _ (HL.out.below HB.out (Nat.le_refl _))).mono ?_; rintro e w1 ⟨rfl, hB1⟩; have n_ := Aside0.mk (HB.out.trans (hB1.mono HB.out.size)); clear HB hB1; have HB := n_; clear n_)
    | (go_at_call 16; with_reducible refine (MAB.out _ (HL.out.below HB.out (Nat.le_refl _))).mono ?_; rintro e w1 ⟨rfl, hB1⟩; have n_ := Aside0.mk (HB.out.trans (hB1.mono HB.out.size)); clear HB hB1; have HB := n_; clear n_)
    | (go_at_call 16; with_reducible refine (MAC.out _ (HL.out.below HB.out (Nat.le_refl _))).mono ?_; rintro e w1 ⟨rfl, hB1⟩; have n_ := Aside0.mk (HB.out.trans (hB1.mono HB.out.size)); clear HB hB1; have HB := n_; clear n_)
    | (go_at_call 17; with_reducible refine (RBC.out _).mono ?_; rintro e w1 ⟨rfl, hB1⟩; have n_ := Aside0.mk (HB.out.trans (hB1.mono HB.out.size)); clear HB hB1; have HB := n_; clear n_)
    | (go_at_call 15; with_reducible refine (HPQ.out _ (HL.out.below HB.out (Nat.le_refl _))).mono ?_; rintro e w1 ⟨rfl, hB1⟩; have n_ := Aside0.mk (HB.out.trans (hB1.mono HB.out.size)); clear HB hB1; have HB := n_; clear n_))
  all_goals go_ret
  all_goals exact ⟨rfl, HB.out⟩

theorem ansV_sz {o : Option Int} {s : ByteArray} {n : Int} (h : ansV o = .tuple #[.string s, .int .i64 n]) : s.size ≤ 9223372036854775807 := by
  cases o with
  | none => cases h; decide
  | some z =>
    by_cases h2 : (Lib.decDigits z.natAbs).length ≤ 200
    · rw [ansV_ok h2] at h
      cases h
      have hab : z.natAbs < 10 ^ 200 := by
        have := N.dv_lt _ (N.dec_all z.natAbs)
        rw [N.dv_dec] at this
        exact Nat.lt_of_lt_of_le this (Nat.pow_le_pow_right (by omega) h2)
      have := can_len (N.can_itoa z hab).1
      have e : (baU (Lib.itoa z)).size = (Lib.itoa z).length := by simp [baU, ByteArray.size]
      omega
    · rw [ansV_big h2] at h
      cases h; decide
/-- a good answer: both are numbers, and the text is the result's -/
theorem ans_good {F : Int → Int → Int} {a b s : ByteArray} (h : ansV (opO F a b) = .tuple #[.string s, .int .i64 0]) :
    N.canU a.data.toList = true ∧ N.canU b.data.toList = true ∧ (Lib.decDigits (F (N.valU a.data.toList) (N.valU b.data.toList)).natAbs).length ≤ 200 ∧ s = baU (Lib.itoa (F (N.valU a.data.toList) (N.valU b.data.toList))) := by
  cases hca : N.canU a.data.toList
  · rw [opO_none_l hca] at h; cases h
  cases hcb : N.canU b.data.toList
  · rw [opO_none_r hcb] at h; cases h
  rw [opO_some hca hcb] at h
  by_cases h2 : (Lib.decDigits (F (N.valU a.data.toList) (N.valU b.data.toList)).natAbs).length ≤ 200
  · rw [ansV_ok h2] at h
    exact ⟨rfl, rfl, h2, by cases h; rfl⟩
  · rw [ansV_big h2] at h; cases h
theorem good_val {z : Int} (h2 : (Lib.decDigits z.natAbs).length ≤ 200) : N.canU (baU (Lib.itoa z)).data.toList = true ∧ N.valU (baU (Lib.itoa z)).data.toList = z := by
  have hab : z.natAbs < 10 ^ 200 := by
    have := N.dv_lt _ (N.dec_all z.natAbs)
    rw [N.dv_dec] at this
    exact Nat.lt_of_lt_of_le this (Nat.pow_le_pow_right (by omega) h2)
  rw [baU_list]
  exact N.can_itoa z hab
theorem refAdd_calls (a b : ByteArray) (ha : a.size ≤ 9223372036854775807) (hb : b.size ≤ 9223372036854775807) {s : ByteArray} {n : Int} (h : ansV (opO (· + ·) a b) = .tuple #[.string s, .int .i64 n]) (W : World) :
    Calls Tryd.prog 17 #[.string a, .string b] W fun e w' => e = .returned (.tuple #[.string s, .int .i64 n]) ∧ Below W.heap.size W w' := by
  obtain ⟨k, hk⟩ := Ev.rounds (refAdd_ev a b ha hb)
  rw [← h, ansV_O]
  exact rostrumref09_Add.calls k a b _ _ W hk
theorem ring_calls (a b c : ByteArray) (ha : a.size ≤ 9223372036854775807) (hb : b.size ≤ 9223372036854775807) (hc : c.size ≤ 9223372036854775807) (w : World) (hL : LaidW w) :
    Calls Tryd.prog 4 #[.string a, .string b, .string c] w fun e w' => e = .returned (.bool true) ∧ Below w.heap.size w w' := by
  obtain ⟨s, n, h1⟩ := ansV_form (opO (· + ·) b c)
  have hs := ansV_sz h1
  obtain ⟨x, f, h2⟩ := ansV_form (opO (· * ·) a s)
  obtain ⟨p, g, h3⟩ := ansV_form (opO (· * ·) a b)
  obtain ⟨q, h, h4⟩ := ansV_form (opO (· * ·) a c)
  have hp := ansV_sz h3
  have hq := ansV_sz h4
  obtain ⟨y, m, h5⟩ := ansV_form (opO (· + ·) p q)
  have A1 := Aside0.mk (ansAdd hb hc h1)
  have A2 := Aside0.mk (ansMul ha hs h2)
  have A3 := Aside0.mk (ansMul ha hb h3)
  have A4 := Aside0.mk (ansMul ha hc h4)
  have A5 := Aside0.mk (refAdd_calls b c hb hc h1)
  have A6 := Aside0.mk (ansAdd hp hq h5)
  by_cases en : n = 0
  case neg => exact ring_n a b c s x p q y n f g h m en w hL A1 A2 A3 A4 A5
  by_cases ef : f = 0
  case neg => subst en; exact ring_f a b c s x p q y 0 f g h m ef w hL A1 A2 A3 A4 A5
  by_cases eg : g = 0
  case neg => subst en ef; exact ring_g a b c s x p q y 0 0 g h m eg w hL A1 A2 A3 A4 A5
  by_cases eh : h = 0
  case neg => subst en ef eg; exact ring_h a b c s x p q y 0 0 0 h m eh w hL A1 A2 A3 A4 A5
  by_cases em : m = 0
  case neg => subst en ef eg eh; exact ring_m a b c s x p q y 0 0 0 0 m em w hL A1 A2 A3 A4 A5 A6
  subst en ef eg eh em
  obtain ⟨ca, cb, lp, rfl⟩ := ans_good h3
  obtain ⟨_, cc, lq, rfl⟩ := ans_good h4
  obtain ⟨_, _, ls, rfl⟩ := ans_good h1
  obtain ⟨_, _, lx, hx⟩ := ans_good h2
  obtain ⟨_, _, ly, hy⟩ := ans_good h5
  rw [(good_val ls).2] at hx
  rw [(good_val lp).2, (good_val lq).2] at hy
  have hxy : x = y := by rw [hx, hy]; show baU (Lib.itoa (_ * (_ + _))) = _; rw [Int.mul_add]
  subst hxy
  exact ring_0 a b c _ x _ _ x 0 0 0 0 0 w hL A1 A2 A3 A4 A5 A6
end Go.Proofs.YtlnneellihkdkaaDoor.D
