/- stm: the keys of a map, sorted: over whatever map lies in memory. -/
import Derived.Test.YtkjliijcnllohaaHKeys0
import Derived.Test.YtkjliijcnllohaaHOps
namespace Go.Proofs.Ytkjliijcnllohaa.S
open Go.RowKit Go.Proofs.YtkjliijcnllohaaW.PrintWords Go.Proofs.YtkjliijcnllohaaW.PrintLast Go.Proofs.YtkjliijcnllohaaW.PrintMore
set_option linter.unusedVariables false
set_option linter.unusedSimpArgs false

def anyR : Value → Option (DataW Unit × List MemPlace) := fun _ => some (.lit (.bool true), [])
def baOf (l : List UInt8) : ByteArray := ⟨l.toArray⟩
theorem baOf_of (s : ByteArray) : baOf s.data.toList = s := by
  unfold baOf; simp
theorem of_baOf (l : List UInt8) : (baOf l).data.toList = l := by unfold baOf; simp
def sortS (l : List ByteArray) : List ByteArray := ((l.map (·.data.toList)).mergeSort (fun x y => decide (x ≤ y))).map baOf
theorem sortS_perm (l : List ByteArray) : (sortS l).Perm l := by
  unfold sortS
  have h := (List.mergeSort_perm (l.map (·.data.toList)) (fun x y => decide (x ≤ y))).map baOf
  rw [List.map_map] at h
  have e : l.map (baOf ∘ (·.data.toList)) = l := (List.map_congr_left fun x _ => baOf_of x).trans (List.map_id _)
  rw [e] at h
  exact h
theorem sortS_mem {l : List ByteArray} {x : ByteArray} : x ∈ sortS l ↔ x ∈ l := (sortS_perm l).mem_iff
theorem sortS_len (l : List ByteArray) : (sortS l).length = l.length := (sortS_perm l).length_eq
theorem ownsMap_of {w : World} {b : Nat} {m : List (ByteArray × Value)} (h : MapIs w b m) (hlen : m.length ≤ 1000000000) (hk : ∀ p ∈ m, p.1.size ≤ 11) :
    ∃ D0 : DataW Unit, w.ownsMap Try.prog 9 anyR b m.length D0 ∧ (_root_.Go.strKeys D0).Perm (m.map (·.1.data.toList)) ∧ Maps.size D0 = m.length := by
  obtain ⟨es, cl, h1, h2, h3⟩ := h
  have hsz : es.size = m.length := by
    have := congrArg List.length h3
    simpa [pairs] using this
  have hkey : ∀ x ∈ es.toList, ∃ p ∈ m, x.key = .string p.1 := fun x hx => by
    have : (x.key, x.val) ∈ pairs es := List.mem_map.2 ⟨x, hx, rfl⟩
    rw [h3] at this
    obtain ⟨p, hp, he⟩ := List.mem_map.1 this
    exact ⟨p, hp, (congrArg Prod.fst he).symm⟩
  have hrd : ∀ x ∈ es.toList, ∀ p ∈ m, x.key = .string p.1 → WideElems.rd Try.prog 9 anyR x = some (.string p.1.data.toList, .lit (.bool true)) := fun x hx p hp he => by
    have hw : p.1.size ≤ maxLen := by have := hk p hp; unfold maxLen; omega
    have hko : keyOf Try.prog 9 x.key = some (.string p.1.data.toList) := by
      rw [he]
      simp [keyOf, Try.underlying9, mapKey, hw]
    simp [WideElems.rd, hko, anyR]
  refine ⟨.map ((es.toList.map (WideElems.rg Try.prog 9 anyR)).foldr DataW.insert []), ⟨es, cl, h1, ⟨by rw [hsz]; unfold maxLen; omega, h2, fun x hx => ?_⟩, by omega, rfl⟩, ?_, ?_⟩
  · obtain ⟨p, hp, he⟩ := hkey x hx
    exact ⟨_, hrd x hx p hp he⟩
  · show (List.map (fun p : Lit × DataW Unit => _root_.Go.strOf p.1) _).Perm _
    refine ((WideShapes.sorted_perm _).map _).trans ?_
    rw [List.map_map]
    have : es.toList.map ((fun p : Lit × DataW Unit => _root_.Go.strOf p.1) ∘ WideElems.rg Try.prog 9 anyR) = m.map (·.1.data.toList) := by
      have e1 : ∀ x ∈ es.toList, (((fun p : Lit × DataW Unit => _root_.Go.strOf p.1) ∘ WideElems.rg Try.prog 9 anyR) x) = (match x.key with | .string a => a.data.toList | _ => []) := fun x hx => by
        obtain ⟨p, hp, he⟩ := hkey x hx
        simp only [Function.comp, WideElems.rg_of (hrd x hx p hp he), he]
        rfl
      rw [List.map_congr_left e1]
      have e2 := congrArg (List.map fun kv : Value × Value => (match kv.1 with | .string a => a.data.toList | _ => [])) h3
      simp only [pairs, List.map_map] at e2
      exact e2
    rw [this]
  · show List.length _ = _
    rw [(WideShapes.sorted_perm _).length_eq]
    simp [hsz]
theorem sorted_of {ss : List (List UInt8)} {m : List (ByteArray × Value)} (h : ss.Perm (m.map (·.1.data.toList))) : (ss.mergeSort (fun x y => decide (x ≤ y))).map encStr = (sortS (m.map (·.1))).map Value.string := by
  have e : ss.mergeSort (fun x y => decide (x ≤ y)) = (m.map (·.1.data.toList)).mergeSort (fun x y => decide (x ≤ y)) := mergeSort_of_perm h
  rw [e]
  unfold sortS
  rw [List.map_map, List.map_map]
  rfl
theorem sorted48 {w : World} {b : Nat} {m : List (ByteArray × Value)} (h : MapIs w b m) (hlen : m.length ≤ 1000000000) (hk : ∀ p ∈ m, p.1.size ≤ 11) :
    Calls Try.prog 47 #[.func (.func 69) #[] #[.pointer (some ⟨w.heap.size, 0, none⟩)]] (w.alloc (.cells #[.map (some b)] 65)) fun e w' => ∃ v, e = .returned v ∧
      w'.ownsRow (w.heap.size + 1) 9 1 v m.length ((sortS (m.map (·.1))).map Value.string) ∧ (v = .slice none 0 0 ↔ m = []) ∧ Below w.heap.size w w' := by
  obtain ⟨D0, ho, hp, hs⟩ := ownsMap_of h hlen hk
  have hc := Try.slices_Sorted_keys_47_48 b m.length D0 anyR w ho (by rw [hs]; unfold maxLen; omega) (by rw [hs]; omega)
  refine (callsIn_wide.1 hc).mono ?_
  rintro e w' ⟨v, ss, rfl, hperm, hown, hnil, hb⟩
  have hsz : (w.alloc (.cells #[.map (some b)] 65)).heap.size = w.heap.size + 1 := by simp
  rw [hsz] at hown hb
  have hpm := hperm.trans hp
  have hl : ss.length = m.length := by rw [hpm.length_eq]; simp
  rw [sorted_of hpm, hl] at hown
  exact ⟨v, rfl, hown, hnil.trans ⟨fun e => by subst e; exact List.length_eq_zero_iff.1 hl.symm, fun e => by subst e; exact List.length_eq_zero_iff.1 hl⟩, ((Below.refl _ w).alloc (Nat.le_refl _) _).trans (hb.mono (Nat.le_succ _))⟩
theorem sorted65 {w : World} {b : Nat} {m : List (ByteArray × Value)} (h : MapIs w b m) (hlen : m.length ≤ 1000000000) (hk : ∀ p ∈ m, p.1.size ≤ 11) :
    Calls Try.prog 47 #[.func (.func 72) #[] #[.pointer (some ⟨w.heap.size, 0, none⟩)]] (w.alloc (.cells #[.map (some b)] 47)) fun e w' => ∃ v, e = .returned v ∧
      w'.ownsRow (w.heap.size + 1) 9 1 v m.length ((sortS (m.map (·.1))).map Value.string) ∧ (v = .slice none 0 0 ↔ m = []) ∧ Below w.heap.size w w' := by
  obtain ⟨D0, ho, hp, hs⟩ := ownsMap_of h hlen hk
  have hc := Try.slices_Sorted_keys_47_65 b m.length D0 anyR w ho (by rw [hs]; unfold maxLen; omega) (by rw [hs]; omega)
  refine (callsIn_wide.1 hc).mono ?_
  rintro e w' ⟨v, ss, rfl, hperm, hown, hnil, hb⟩
  have hsz : (w.alloc (.cells #[.map (some b)] 47)).heap.size = w.heap.size + 1 := by simp
  rw [hsz] at hown hb
  have hpm := hperm.trans hp
  have hl : ss.length = m.length := by rw [hpm.length_eq]; simp
  rw [sorted_of hpm, hl] at hown
  exact ⟨v, rfl, hown, hnil.trans ⟨fun e => by subst e; exact List.length_eq_zero_iff.1 hl.symm, fun e => by subst e; exact List.length_eq_zero_iff.1 hl⟩, ((Below.refl _ w).alloc (Nat.le_refl _) _).trans (hb.mono (Nat.le_succ _))⟩
theorem sorted66 {w : World} {b : Nat} {m : List (ByteArray × Value)} (h : MapIs w b m) (hlen : m.length ≤ 1000000000) (hk : ∀ p ∈ m, p.1.size ≤ 11) :
    Calls Try.prog 47 #[.func (.func 73) #[] #[.pointer (some ⟨w.heap.size, 0, none⟩)]] (w.alloc (.cells #[.map (some b)] 61)) fun e w' => ∃ v, e = .returned v ∧
      w'.ownsRow (w.heap.size + 1) 9 1 v m.length ((sortS (m.map (·.1))).map Value.string) ∧ (v = .slice none 0 0 ↔ m = []) ∧ Below w.heap.size w w' := by
  obtain ⟨D0, ho, hp, hs⟩ := ownsMap_of h hlen hk
  have hc := Try.slices_Sorted_keys_47_66 b m.length D0 anyR w ho (by rw [hs]; unfold maxLen; omega) (by rw [hs]; omega)
  refine (callsIn_wide.1 hc).mono ?_
  rintro e w' ⟨v, ss, rfl, hperm, hown, hnil, hb⟩
  have hsz : (w.alloc (.cells #[.map (some b)] 61)).heap.size = w.heap.size + 1 := by simp
  rw [hsz] at hown hb
  have hpm := hperm.trans hp
  have hl : ss.length = m.length := by rw [hpm.length_eq]; simp
  rw [sorted_of hpm, hl] at hown
  exact ⟨v, rfl, hown, hnil.trans ⟨fun e => by subst e; exact List.length_eq_zero_iff.1 hl.symm, fun e => by subst e; exact List.length_eq_zero_iff.1 hl⟩, ((Below.refl _ w).alloc (Nat.le_refl _) _).trans (hb.mono (Nat.le_succ _))⟩
end Go.Proofs.Ytkjliijcnllohaa.S
