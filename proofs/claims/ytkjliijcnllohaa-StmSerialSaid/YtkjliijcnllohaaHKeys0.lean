/- The keys of a map, sorted: in plain calls. -/
import Derived.Test.YtkjliijcnllohaaHIter
import Derived.Test.YtkjliijcnllohaaHRef
namespace Go.Proofs.Ytkjliijcnllohaa.S
open Go.RowKit Go.Maps Go.Sort Go.Shelf
theorem keys48 (m : Option Nat) (w : World) : Calls Try.prog 48 #[.map m] w fun e w' => e = .returned (.func (.func 69) #[] #[.pointer (some ⟨w.heap.size, 0, none⟩)]) ∧ w' = w.alloc (.cells #[.map m] 65) :=
  callsIn_wide.1 (Try.maps_Keys_48 m w)
theorem sorted0_48 (w : World) : Calls Try.prog 47 #[.func (.func 69) #[] #[.pointer (some ⟨w.heap.size, 0, none⟩)]] (w.alloc (.cells #[.map none] 65)) fun e w' => e = .returned (.slice none 0 0) ∧ Below w.heap.size w w' :=
  (callsIn_wide.1 (Try.slices_Sorted_keys_nil_47_48 w)).mono fun e w' h => by
    obtain ⟨v, ss, rfl, hss, -, hv, hb⟩ := h
    have h1 : (w.alloc (.cells #[.map none] 65)).heap.size = w.heap.size + 1 := by simp
    exact ⟨by rw [hv.2 hss], ((Below.refl _ w).alloc (Nat.le_refl _) _).trans (hb.mono (by rw [h1]; exact Nat.le_succ _))⟩
theorem keys65 (m : Option Nat) (w : World) : Calls Try.prog 65 #[.map m] w fun e w' => e = .returned (.func (.func 72) #[] #[.pointer (some ⟨w.heap.size, 0, none⟩)]) ∧ w' = w.alloc (.cells #[.map m] 47) :=
  callsIn_wide.1 (Try.maps_Keys_65 m w)
theorem sorted0_65 (w : World) : Calls Try.prog 47 #[.func (.func 72) #[] #[.pointer (some ⟨w.heap.size, 0, none⟩)]] (w.alloc (.cells #[.map none] 47)) fun e w' => e = .returned (.slice none 0 0) ∧ Below w.heap.size w w' :=
  (callsIn_wide.1 (Try.slices_Sorted_keys_nil_47_65 w)).mono fun e w' h => by
    obtain ⟨v, ss, rfl, hss, -, hv, hb⟩ := h
    have h1 : (w.alloc (.cells #[.map none] 47)).heap.size = w.heap.size + 1 := by simp
    exact ⟨by rw [hv.2 hss], ((Below.refl _ w).alloc (Nat.le_refl _) _).trans (hb.mono (by rw [h1]; exact Nat.le_succ _))⟩
theorem keys66 (m : Option Nat) (w : World) : Calls Try.prog 66 #[.map m] w fun e w' => e = .returned (.func (.func 73) #[] #[.pointer (some ⟨w.heap.size, 0, none⟩)]) ∧ w' = w.alloc (.cells #[.map m] 61) :=
  callsIn_wide.1 (Try.maps_Keys_66 m w)
theorem sorted0_66 (w : World) : Calls Try.prog 47 #[.func (.func 73) #[] #[.pointer (some ⟨w.heap.size, 0, none⟩)]] (w.alloc (.cells #[.map none] 61)) fun e w' => e = .returned (.slice none 0 0) ∧ Below w.heap.size w w' :=
  (callsIn_wide.1 (Try.slices_Sorted_keys_nil_47_66 w)).mono fun e w' h => by
    obtain ⟨v, ss, rfl, hss, -, hv, hb⟩ := h
    have h1 : (w.alloc (.cells #[.map none] 61)).heap.size = w.heap.size + 1 := by simp
    exact ⟨by rw [hv.2 hss], ((Below.refl _ w).alloc (Nat.le_refl _) _).trans (hb.mono (by rw [h1]; exact Nat.le_succ _))⟩
end Go.Proofs.Ytkjliijcnllohaa.S
