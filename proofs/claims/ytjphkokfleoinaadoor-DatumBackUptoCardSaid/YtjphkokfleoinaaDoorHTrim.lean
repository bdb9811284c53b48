
/- strings.TrimLeft with the cutset "0": its contract. -/
import Derived.Test.YtjphkokfleoinaaDoorDx9
namespace Go.Proofs.YtjphkokfleoinaaDoor.D
open Go.RowKit Go.Proofs.YtjphkokfleoinaaDoorW.PrintWords Go.Proofs.YtjphkokfleoinaaDoorW.PrintLast Go.Proofs.YtjphkokfleoinaaDoorW.PrintMore
set_option linter.unusedVariables false
set_option linter.unusedSimpArgs false

def strings_TrimLeft.f (a0 : ByteArray) (a1 : ByteArray) : Option (ByteArray) := if a1 = ⟨#[48]⟩ then strings_trimLeftByte.f (a0.size + 1) a0 48 else none
set_option maxRecDepth 100000 in
set_option maxHeartbeats 1000000 in
theorem strings_TrimLeft.calls (a0 : ByteArray) (a1 : ByteArray) (r : ByteArray) (w : World) (h : strings_TrimLeft.f a0 a1 = some r) :
    Calls Tryd.prog 51 #[.string a0, .string a1] w fun e w' => e = .returned (.string r) ∧ Drawn0 w w' := by
  unfold strings_TrimLeft.f at h
  split at h
  · rename_i h1
    subst h1
    by_cases h0 : a0.toList = ([] : List UInt8)
    · have hr : r = a0 := by
        have hz : a0.size = 0 := by
          have := congrArg List.length h0
          simpa [Lib.toList_data] using this
        simp only [strings_trimLeftByte.f, strings_trimLeftByte.l0] at h
        rw [if_neg (by omega)] at h
        exact (Option.some.inj h).symm
      subst hr
      clear h
      go_enter Tryd.func51, Tryd.ntmps51
      go_wp2
      go_ret
      exact ⟨rfl, Drawn0.refl _⟩
    · have H := Aside0.mk h
      have c0 : (a0.toList == ([] : List UInt8)) = false := beq_eq_false_iff_ne.mpr h0
      clear h h0
      go_enter Tryd.func51, Tryd.ntmps51
      go_wp2_with (go_at_call 53; refine (strings_trimLeftByte.calls _ a0 48 r _ H.out).mono ?_; rintro e w' ⟨rfl, hd⟩)
      go_ret
      exact ⟨rfl, hd⟩
  · cases h
end Go.Proofs.YtjphkokfleoinaaDoor.D
