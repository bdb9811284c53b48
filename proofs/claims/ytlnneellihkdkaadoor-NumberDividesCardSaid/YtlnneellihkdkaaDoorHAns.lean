/- The five calls, as answers. -/
import Derived.Test.YtlnneellihkdkaaDoorDx1
import Derived.Test.YtlnneellihkdkaaDoorHSub
import Derived.Test.YtlnneellihkdkaaDoorHMul
namespace Go.Proofs.YtlnneellihkdkaaDoor.D
open Go Go.Proofs Go.RowKit Go.Shelf Go.Proofs.YtlnneellihkdkaaDoorW.PrintWords Go.Proofs.YtlnneellihkdkaaDoorW.PrintLast Go.Proofs.YtlnneellihkdkaaDoorW.PrintMore
set_option linter.unusedVariables false
set_option linter.unusedSimpArgs false

abbrev Ans (f : Nat) (a b : ByteArray) (s : ByteArray) (n : Int) : Prop := ∀ W : World, LaidW W → Calls Tryd.prog f #[.string a, .string b] W fun e w' => e = .returned (.tuple #[.string s, .int .i64 n]) ∧ Below W.heap.size W w'
abbrev CanIs (a : ByteArray) (b : Bool) : Prop := ∀ W : World, Calls Tryd.prog 12 #[.string a] W fun e w' => e = .returned (.bool b) ∧ Below W.heap.size W w'
theorem canIs (a : ByteArray) (ha : a.size ≤ 9223372036854775807) : CanIs a (N.canU a.data.toList) := fun W => by
  obtain ⟨k, hk⟩ := Ev.rounds (can_prog_u a ha)
  exact (number_Can.calls k a _ W hk).mono (fun e w' h => ⟨h.1, h.2.below⟩)
theorem ansV_form (o : Option Int) : ∃ s n, ansV o = .tuple #[.string s, .int .i64 n] := by
  cases o with
  | none => exact ⟨_, _, rfl⟩
  | some z =>
    by_cases h : (Lib.decDigits z.natAbs).length ≤ 200
    · exact ⟨_, _, ansV_ok h⟩
    · exact ⟨_, _, ansV_big h⟩
theorem ansAdd {a b s : ByteArray} {n : Int} (ha : a.size ≤ 9223372036854775807) (hb : b.size ≤ 9223372036854775807) (h : ansV (opO (· + ·) a b) = .tuple #[.string s, .int .i64 n]) : Ans 15 a b s n := fun W hW => h ▸ add_calls a b ha hb W hW
theorem ansSub {a b s : ByteArray} {n : Int} (ha : a.size ≤ 9223372036854775807) (hb : b.size ≤ 9223372036854775807) (h : ansV (opO (· - ·) a b) = .tuple #[.string s, .int .i64 n]) : Ans 18 a b s n := fun W hW => h ▸ sub_calls a b ha hb W hW
theorem ansMul {a b s : ByteArray} {n : Int} (ha : a.size ≤ 9223372036854775807) (hb : b.size ≤ 9223372036854775807) (h : ansV (opO (· * ·) a b) = .tuple #[.string s, .int .i64 n]) : Ans 16 a b s n := fun W hW => h ▸ mul_calls a b ha hb W hW
end Go.Proofs.YtlnneellihkdkaaDoor.D
