
/- heap: the words of a heap, sorted. -/
import Derived.Test.YtlghnldlkbgajaaHDone
namespace Go.Proofs.Ytlghnldlkbgajaa.S
open Go.RowKit Go.Proofs.YtlghnldlkbgajaaW.PrintWords Go.Proofs.YtlghnldlkbgajaaW.PrintLast Go.Proofs.YtlghnldlkbgajaaW.PrintMore
set_option linter.unusedVariables false
set_option linter.unusedSimpArgs false

def anyR : Value → Option (DataW Unit × List MemPlace) := fun _ => some (.lit (.bool true), [])
def sortI (l : List Int) : List Int := l.mergeSort (fun x y => decide (x ≤ y))
theorem sortI_mem {l : List Int} {x : Int} : x ∈ sortI l ↔ x ∈ l := by unfold sortI; exact (List.mergeSort_perm l _).mem_iff
theorem sortI_len (l : List Int) : (sortI l).length = l.length := by unfold sortI; exact List.length_mergeSort l
theorem ownsMap_of {w : World} {b : Nat} {m : List (Int × Value)} (h : MapIs w b m) (hlen : m.length ≤ 1000000) (hk : ∀ p ∈ m, -9223372036854775808 ≤ p.1 ∧ p.1 ≤ 9223372036854775807) :
    ∃ D0 : DataW Unit, w.ownsMap Try.prog 28 anyR b m.length D0 ∧ (_root_.Go.intKeys D0).Perm (m.map (·.1)) ∧ Maps.size D0 = m.length := by
  obtain ⟨es, cl, h1, h2, h3⟩ := h
  have hsz : es.size = m.length := by
    have := congrArg List.length h3
    simpa [pairs] using this
  have hkey : ∀ x ∈ es.toList, ∃ p ∈ m, x.key = .int .i64 p.1 := fun x hx => by
    have : (x.key, x.val) ∈ pairs es := List.mem_map.2 ⟨x, hx, rfl⟩
    rw [h3] at this
    obtain ⟨p, hp, he⟩ := List.mem_map.1 this
    exact ⟨p, hp, (congrArg Prod.fst he).symm⟩
  have hrd : ∀ x ∈ es.toList, ∀ p ∈ m, x.key = .int .i64 p.1 → WideElems.rd Try.prog 28 anyR x = some (.int .i64 p.1, .lit (.bool true)) := fun x hx p hp he => by
    have e1 : IntKind.i64.min = -9223372036854775808 := rfl
    have e2 : IntKind.i64.max = 9223372036854775807 := rfl
    have hw : (Lit.int .i64 p.1).wf = true := by
      have := hk p hp
      simp [Lit.wf, e1, e2]; omega
    have hko : keyOf Try.prog 28 x.key = some (.int .i64 p.1) := by
      rw [he]
      simp [keyOf, Try.underlying28, mapKey, hw]
    simp [WideElems.rd, hko, anyR]
  refine ⟨.map ((es.toList.map (WideElems.rg Try.prog 28 anyR)).foldr DataW.insert []), ⟨es, cl, h1, ⟨by rw [hsz]; unfold maxLen; omega, h2, fun x hx => ?_⟩, by omega, rfl⟩, ?_, ?_⟩
  · obtain ⟨p, hp, he⟩ := hkey x hx
    exact ⟨_, hrd x hx p hp he⟩
  · show (List.map (fun p : Lit × DataW Unit => _root_.Go.intOf p.1) _).Perm _
    refine ((WideShapes.sorted_perm _).map _).trans ?_
    rw [List.map_map]
    have : es.toList.map ((fun p : Lit × DataW Unit => _root_.Go.intOf p.1) ∘ WideElems.rg Try.prog 28 anyR) = m.map (·.1) := by
      have e1 : ∀ x ∈ es.toList, (((fun p : Lit × DataW Unit => _root_.Go.intOf p.1) ∘ WideElems.rg Try.prog 28 anyR) x) = (match x.key with | .int _ a => a | _ => 0) := fun x hx => by
        obtain ⟨p, hp, he⟩ := hkey x hx
        simp only [Function.comp, WideElems.rg_of (hrd x hx p hp he), he]
        rfl
      rw [List.map_congr_left e1]
      have e2 := congrArg (List.map fun kv : Value × Value => (match kv.1 with | .int _ a => a | _ => 0)) h3
      simp only [pairs, List.map_map] at e2
      exact e2
    rw [this]
  · show List.length _ = _
    rw [(WideShapes.sorted_perm _).length_eq]
    simp [hsz]
/-- slices.Sorted(maps.Keys(m)). -/
theorem keys_call (b : Nat) (w : World) : Calls Try.prog 58 #[.map (some b)] w fun e w' => e = .returned (.func (.func 74) #[] #[.pointer (some ⟨w.heap.size, 0, none⟩)]) ∧ w' = w.alloc (.cells #[.map (some b)] 63) :=
  callsIn_wide.1 (Try.maps_Keys_58 (some b) w)
theorem sorted_call {w : World} {b : Nat} {m : List (Int × Value)} (h : MapIs w b m) (hlen : m.length ≤ 1000000) (hk : ∀ p ∈ m, -9223372036854775808 ≤ p.1 ∧ p.1 ≤ 9223372036854775807) :
    Calls Try.prog 57 #[.func (.func 74) #[] #[.pointer (some ⟨w.heap.size, 0, none⟩)]] (w.alloc (.cells #[.map (some b)] 63)) fun e w' => ∃ v, e = .returned v ∧
      w'.ownsRow (w.heap.size + 1) 28 1 v m.length ((sortI (m.map (·.1))).map (Value.int .i64)) ∧ Below (w.heap.size + 1) (w.alloc (.cells #[.map (some b)] 63)) w' := by
  obtain ⟨D0, ho, hp, hs⟩ := ownsMap_of h hlen hk
  have hc := Try.slices_Sorted_keys_57_58 b m.length D0 anyR w ho (by rw [hs]; unfold maxLen; omega) (by rw [hs]; omega)
  refine (callsIn_wide.1 hc).mono ?_
  rintro e w' ⟨v, ss, rfl, hperm, hown, -, hb⟩
  have hsz : (w.alloc (.cells #[.map (some b)] 63)).heap.size = w.heap.size + 1 := by simp
  rw [hsz] at hown hb
  have hpm := hperm.trans hp
  have e : ss.mergeSort (fun x y => decide (x ≤ y)) = sortI (m.map (·.1)) := mergeSort_of_perm_i hpm
  have hl : ss.length = m.length := by rw [hpm.length_eq]; simp
  rw [e, hl] at hown
  exact ⟨v, rfl, hown, hb⟩
end Go.Proofs.Ytlghnldlkbgajaa.S
