/- NumberSums: the law's walk. -/
import Derived.Test.YtlnneellihkdkaaDoorDx21
import Derived.Test.YtlnneellihkdkaaDoorDx22
import Derived.Test.YtlnneellihkdkaaDoorDx23
import Derived.Test.YtlnneellihkdkaaDoorHAns
import Derived.Test.YtlnneellihkdkaaDoorHRefM
namespace Go.Proofs.YtlnneellihkdkaaDoor.D
open Go Go.Proofs Go.RowKit Go.Shelf Go.Proofs.YtlnneellihkdkaaDoorW.PrintWords Go.Proofs.YtlnneellihkdkaaDoorW.PrintLast Go.Proofs.YtlnneellihkdkaaDoorW.PrintMore
set_option linter.unusedVariables false
set_option linter.unusedSimpArgs false

set_option maxRecDepth 100000 in
set_option maxHeartbeats 4000000 in
theorem sums_walk (a b x p r : ByteArray) (n g i : Int) (w : World) (hL : LaidW w) (HA : Aside0 (Ans 15 a b x n)) (HS : Aside0 (Ans 18 a b p g)) (HM : Aside0 (Ans 16 a b r i)) (RA : Aside0 (∀ W : World, Calls Tryd.prog 17 #[.string a, .string b] W fun e w' => e = .returned (.tuple #[.string x, .int .i64 n]) ∧ Below W.heap.size W w')) (RS : Aside0 (∀ W : World, Calls Tryd.prog 19 #[.string a, .string b] W fun e w' => e = .returned (.tuple #[.string p, .int .i64 g]) ∧ Below W.heap.size W w')) (RM : Aside0 (∀ W : World, Calls Tryd.prog 20 #[.string a, .string b] W fun e w' => e = .returned (.tuple #[.string r, .int .i64 i]) ∧ Below W.heap.size W w')) :
    Calls Tryd.prog 5 #[.string a, .string b] w fun e w' => e = .returned (.bool true) ∧ Below w.heap.size w w' := by
  have HL := Aside0.mk hL
  have HB := Aside0.mk (Below.refl w.heap.size w)
  clear hL
  go_enter Tryd.func5, Tryd.ntmps5
  go_wp2_with
    (first
    | (go_at_call 15; with_reducible refine (HA.out _ (HL.out.below HB.out (Nat.le_refl _))).mono ?_; rintro e w1 ⟨rfl, hB1⟩; have n_ := Aside0.mk (HB.out.trans (hB1.mono HB.out.size)); clear HB hB1; have HB := n_; clear n_)
    | (go_at_call 17; with_reducible refine (RA.out _).mono ?_; rintro e w1 ⟨rfl, hB1⟩; have n_ := Aside0.mk (HB.out.trans (hB1.mono HB.out.size)); clear HB hB1; have HB := n_; clear n_)
    | (go_at_call 18; with_reducible refine (HS.out _ (HL.out.below HB.out (Nat.le_refl _))).mono ?_; rintro e w1 ⟨rfl, hB1⟩; have n_ := Aside0.mk (HB.out.trans (hB1.mono HB.out.size)); clear HB hB1; have HB := n_; clear n_)
    | (go_at_call 19; with_reducible refine (RS.out _).mono ?_; rintro e w1 ⟨rfl, hB1⟩; have n_ := Aside0.mk (HB.out.trans (hB1.mono HB.out.size)); clear HB hB1; have HB := n_; clear n_)
    | (go_at_call 16; with_reducible refine (HM.out _ (HL.out.below HB.out (Nat.le_refl _))).mono ?_; rintro e w1 ⟨rfl, hB1⟩; have n_ := Aside0.mk (HB.out.trans (hB1.mono HB.out.size)); clear HB hB1; have HB := n_; clear n_)
    | (go_at_call 20; with_reducible refine (RM.out _).mono ?_; rintro e w1 ⟨rfl, hB1⟩; have n_ := Aside0.mk (HB.out.trans (hB1.mono HB.out.size)); clear HB hB1; have HB := n_; clear n_))
  all_goals go_ret
  all_goals exact ⟨rfl, HB.out⟩
theorem rostrumref09_Add_calls' (a b : ByteArray) (ha : a.size ≤ 9223372036854775807) (hb : b.size ≤ 9223372036854775807) {s : ByteArray} {n : Int} (h : ansV (opO (· + ·) a b) = .tuple #[.string s, .int .i64 n]) (W : World) :
    Calls Tryd.prog 17 #[.string a, .string b] W fun e w' => e = .returned (.tuple #[.string s, .int .i64 n]) ∧ Below W.heap.size W w' := by
  obtain ⟨k, hk⟩ := Ev.rounds (refAdd_ev a b ha hb)
  rw [← h, ansV_O]
  exact rostrumref09_Add.calls k a b _ _ W hk
theorem rostrumref09_Sub_calls' (a b : ByteArray) (ha : a.size ≤ 9223372036854775807) (hb : b.size ≤ 9223372036854775807) {s : ByteArray} {n : Int} (h : ansV (opO (· - ·) a b) = .tuple #[.string s, .int .i64 n]) (W : World) :
    Calls Tryd.prog 19 #[.string a, .string b] W fun e w' => e = .returned (.tuple #[.string s, .int .i64 n]) ∧ Below W.heap.size W w' := by
  obtain ⟨k, hk⟩ := Ev.rounds (refSub_ev a b ha hb)
  rw [← h, ansV_O]
  exact rostrumref09_Sub.calls k a b _ _ W hk
theorem rostrumref09_Mul_calls' (a b : ByteArray) (ha : a.size ≤ 9223372036854775807) (hb : b.size ≤ 9223372036854775807) {s : ByteArray} {n : Int} (h : ansV (opO (· * ·) a b) = .tuple #[.string s, .int .i64 n]) (W : World) :
    Calls Tryd.prog 20 #[.string a, .string b] W fun e w' => e = .returned (.tuple #[.string s, .int .i64 n]) ∧ Below W.heap.size W w' := by
  obtain ⟨k, hk⟩ := Ev.rounds (refMul_ev a b ha hb)
  rw [← h, ansV_O]
  exact rostrumref09_Mul.calls k a b _ _ W hk

theorem sums_calls (a b : ByteArray) (ha : a.size ≤ 9223372036854775807) (hb : b.size ≤ 9223372036854775807) (w : World) (hL : LaidW w) :
    Calls Tryd.prog 5 #[.string a, .string b] w fun e w' => e = .returned (.bool true) ∧ Below w.heap.size w w' := by
  obtain ⟨x, n, h1⟩ := ansV_form (opO (· + ·) a b)
  obtain ⟨p, g, h2⟩ := ansV_form (opO (· - ·) a b)
  obtain ⟨r, i, h3⟩ := ansV_form (opO (· * ·) a b)
  exact sums_walk a b x p r n g i w hL ⟨ansAdd ha hb h1⟩ ⟨ansSub ha hb h2⟩ ⟨ansMul ha hb h3⟩ ⟨rostrumref09_Add_calls' a b ha hb h1⟩ ⟨rostrumref09_Sub_calls' a b ha hb h2⟩ ⟨rostrumref09_Mul_calls' a b ha hb h3⟩
end Go.Proofs.YtlnneellihkdkaaDoor.D
