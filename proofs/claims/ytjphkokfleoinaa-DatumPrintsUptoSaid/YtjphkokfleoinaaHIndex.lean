/- strings.IndexByte: its contract. -/
import Derived.Test.YtjphkokfleoinaaDx0
import Derived.Lib.Bytealg
namespace Go.Proofs.Ytjphkokfleoinaa.D
open Go.RowKit Go.Proofs.YtjphkokfleoinaaW.PrintWords Go.Proofs.YtjphkokfleoinaaW.PrintLast Go.Proofs.YtjphkokfleoinaaW.PrintMore
set_option linter.unusedVariables false
set_option linter.unusedSimpArgs false

theorem index_entry (s : ByteArray) (c : Int) (w : World) : (callFunc 45 #[.string s, .int .u8 c]).run Try.prog w = .ok (.value (.int .i64 (Lib.indexByte s.data.toList c.toNat.toUInt8))) w := by
  rw [run_callFunc_extern Try.func45 (by kernel_rfl) (by kernel_rfl) (by kernel_rfl) (e := Extern.BytealgIndexByte.indexByte) (by kernel_rfl), Lib.run_indexByteString]
  rfl

def strings_IndexByte.f (a0 : ByteArray) (a1 : Int) : Option (Int) := some (Lib.indexByte a0.data.toList a1.toNat.toUInt8)
theorem strings_IndexByte.calls (a0 : ByteArray) (a1 : Int) (r : Int) (w : World) (h : strings_IndexByte.f a0 a1 = some r) :
    Calls Try.prog 27 #[.string a0, .int .u8 a1] w fun e w' => e = .returned (.int .i64 r) ∧ Drawn0 w w' := by
  have hr := Option.some.inj h
  clear h
  have hent : ∀ w, (callFunc 45 #[.string a0, .int .u8 a1]).run Try.prog w = .ok (.value (.int .i64 r)) w := fun w => by rw [index_entry, hr]
  clear hr
  go_enter Try.func27, Try.ntmps27
  go_wp2
  go_ret
  exact ⟨rfl, Drawn0.refl _⟩

end Go.Proofs.Ytjphkokfleoinaa.D
