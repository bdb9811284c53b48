
/- The reference's size, escaped and printed, against the plain functions. -/
import Derived.Test.YtpkfppfdkdjlhaaDoorDx12
import Derived.Test.YtpkfppfdkdjlhaaDoorHRef2
import Derived.Test.YtpkfppfdkdjlhaaDoorHPut
import Derived.Lib.LazyBuf
namespace Go.Proofs.YtpkfppfdkdjlhaaDoor.D
open Go.RowKit Go.Proofs.YtpkfppfdkdjlhaaDoorW.PrintWords Go.Proofs.YtpkfppfdkdjlhaaDoorW.PrintLast Go.Proofs.YtpkfppfdkdjlhaaDoorW.PrintMore
set_option linter.unusedVariables false
set_option linter.unusedSimpArgs false

abbrev sizeStep : Int → S42 → Int → Int := fun v _ _ => wrap64 (v + 1)
/-! ### The text -/
def bs_ (l : List UInt8) : ByteArray := ⟨l.toArray⟩
theorem bs_size (l : List UInt8) : (bs_ l).size = l.length := by simp [bs_, ByteArray.size]
theorem bs_append (a b : List UInt8) : bs_ a ++ bs_ b = bs_ (a ++ b) := by
  apply ByteArray.ext
  simp [bs_]
def nm (l : List UInt8) : List Int := l.map fun b => (b.toNat : Int)
theorem nm_length (l : List UInt8) : (nm l).length = l.length := by simp [nm]
theorem nm_append (a b : List UInt8) : nm a ++ nm b = nm (a ++ b) := by simp [nm]
theorem esc_drop (l : List UInt8) (i : Nat) (h : i < l.length) : escB (l.drop i) = escOne l[i] ++ escB (l.drop (i + 1)) := by
  rw [List.drop_eq_getElem_cons h]; rfl
theorem ref_esc_l0 (t : ByteArray) (ht : t.size ≤ 9223372036854775807) (d : Nat) : ∀ i : Nat, t.size - i = d → i ≤ t.size → ∀ q : List UInt8, q.length + (escB (t.data.toList.drop i)).length ≤ 100000000000000 →
    Ev (fun k => rostrumref10_escaped.l0 k t (nm q) (i : Int)) (bs_ ([34] ++ q ++ escB (t.data.toList.drop i) ++ [34])) := by
  have hsz : t.data.toList.length = t.size := by simp
  induction d with
  | zero =>
    intro i hd hi q hq
    have hn : escB (t.data.toList.drop i) = [] := by rw [List.drop_eq_nil_of_le (by rw [hsz]; omega)]; rfl
    rw [hn] at hq ⊢
    simp only [List.length_nil] at hq
    refine Ev.step (f := fun _ => some (bs_ ([34] ++ q ++ [] ++ [34]))) (fun k => ?_) (Ev.now _)
    simp only [rostrumref10_escaped.l0]
    rw [if_neg (by omega)]
    have e1 : strOfNums (nm q) = bs_ q := Lib.Lz.strOfNums_map q
    have e2 : (⟨#[34]⟩ : ByteArray) = bs_ [34] := rfl
    rw [e1, e2, bs_append, bs_append, if_pos (by rw [bs_size]; omega), if_pos (by rw [bs_size]; simp; omega)]
    simp
  | succ d ih =>
    intro i hd hi q hq
    have hlt : i < t.size := by omega
    have hlt2 : i < t.data.toList.length := by rw [hsz]; exact hlt
    rw [esc_drop _ _ hlt2] at hq ⊢
    generalize hc : t.data.toList[i] = c at hq ⊢
    have hbt : bt t (i : Int) = (c.toNat : Int) := by
      rw [← bt_at t i (by simpa using hlt)]
      rw [← hc]; rfl
    have hgo : ∀ y : List UInt8, y = escOne c → Ev (fun k => rostrumref10_escaped.l0 k t (nm q ++ nm y) (wrap64 ((i : Int) + 1))) (bs_ ([34] ++ q ++ (escOne c ++ escB (t.data.toList.drop (i + 1))) ++ [34])) := by
      intro y hy
      rw [← hy] at hq ⊢
      simp only [List.length_append] at hq
      rw [nm_append, up_ hlt ht]
      have := ih (i + 1) (by omega) (by omega) (q ++ y) (by rw [List.length_append]; omega)
      simpa using this
    have hlen : (escOne c).length ≤ 2 := by unfold escOne; repeat' split
                                            all_goals simp
    simp only [List.length_append] at hq
    have hge := escOne_pos c
    have h34 : (c.toNat : Int) = 34 ↔ c = 34 := ⟨fun h => UInt8.toNat_inj.1 ((show c.toNat = 34 by omega).trans rfl), fun h => by rw [h]; rfl⟩
    have h92 : (c.toNat : Int) = 92 ↔ c = 92 := ⟨fun h => UInt8.toNat_inj.1 ((show c.toNat = 92 by omega).trans rfl), fun h => by rw [h]; rfl⟩
    have h10 : (c.toNat : Int) = 10 ↔ c = 10 := ⟨fun h => UInt8.toNat_inj.1 ((show c.toNat = 10 by omega).trans rfl), fun h => by rw [h]; rfl⟩
    have h9 : (c.toNat : Int) = 9 ↔ c = 9 := ⟨fun h => UInt8.toNat_inj.1 ((show c.toNat = 9 by omega).trans rfl), fun h => by rw [h]; rfl⟩
    have htrue : (c = 34 ∨ c = 92) → Ev (fun k => rostrumref10_escaped.j1 k t (nm q) (i : Int) (c.toNat : Int) true) (bs_ ([34] ++ q ++ (escOne c ++ escB (t.data.toList.drop (i + 1))) ++ [34])) := by
      intro h
      refine Ev.step (fun k => ?_) (hgo [92, c] (by rcases h with rfl | rfl <;> rfl))
      simp only [rostrumref10_escaped.j1, if_true, hbt, Option.bind_some, List.length_cons, List.length_nil, nm_length]
      rw [if_pos (by omega), if_pos (by omega), if_pos (by omega)]
      rfl
    by_cases e34 : c = 34
    · refine Ev.step (fun k => ?_) (htrue (.inl e34))
      simp only [rostrumref10_escaped.l0, hbt]
      rw [if_pos (by omega), if_pos (by omega), if_pos (h34.2 e34), h34.2 e34]
      rfl
    · by_cases e92 : c = 92
      · refine Ev.step (fun k => ?_) (htrue (.inr e92))
        simp only [rostrumref10_escaped.l0, hbt]
        rw [if_pos (by omega), if_pos (by omega), if_neg (fun h => e34 (h34.1 h)), h92.2 e92]
        rfl
      · refine Ev.step (f := fun k => rostrumref10_escaped.j1 k t (nm q) (i : Int) (c.toNat : Int) false) (fun k => ?_) ?_
        · simp only [rostrumref10_escaped.l0, hbt]
          rw [if_pos (by omega), if_pos (by omega), if_neg (fun h => e34 (h34.1 h))]
          rw [show ((c.toNat : Int) == 92) = false from beq_eq_false_iff_ne.2 (fun h => e92 (h92.1 h))]
        · by_cases e10 : c = 10
          · refine Ev.step (fun k => ?_) (hgo [92, 110] (by rw [e10]; rfl))
            simp only [rostrumref10_escaped.j1, hbt, Option.bind_some, List.length_cons, List.length_nil, nm_length]
            rw [if_neg (by simp), if_pos (h10.2 e10), if_pos (by omega)]
            rfl
          · by_cases e9 : c = 9
            · refine Ev.step (fun k => ?_) (hgo [92, 116] (by rw [e9]; rfl))
              simp only [rostrumref10_escaped.j1, hbt, Option.bind_some, List.length_cons, List.length_nil, nm_length]
              rw [if_neg (by simp), if_neg (fun h => e10 (h10.1 h)), if_pos (h9.2 e9), if_pos (by omega)]
              rfl
            · refine Ev.step (fun k => ?_) (hgo [c] (by unfold escOne; rw [if_neg e92, if_neg e34, if_neg e10, if_neg e9]))
              simp only [rostrumref10_escaped.j1, hbt, Option.bind_some, List.length_cons, List.length_nil, nm_length]
              rw [if_neg (by simp), if_neg (fun h => e10 (h10.1 h)), if_neg (fun h => e9 (h9.1 h)), if_pos (by omega), if_pos (by omega), if_pos (by omega)]
              rfl
theorem ref_escaped (t : ByteArray) (ht : t.size ≤ 9223372036854775807) (hq : (escB t.data.toList).length ≤ 100000000000000) :
    Ev (fun k => rostrumref10_escaped.f k t) (bs_ ([34] ++ escB t.data.toList ++ [34])) := by
  have := ref_esc_l0 t ht _ 0 rfl (Nat.zero_le _) [] (by simpa using hq)
  simpa [rostrumref10_escaped.f, nm] using this
end Go.Proofs.YtpkfppfdkdjlhaaDoor.D
