/- stm: New. -/
import Derived.Test.YtkjliijcnllohaaHPub2
namespace Go.Proofs.Ytkjliijcnllohaa.S
open Go.RowKit Go.Proofs.YtkjliijcnllohaaW.PrintWords Go.Proofs.YtkjliijcnllohaaW.PrintLast Go.Proofs.YtkjliijcnllohaaW.PrintMore
set_option linter.unusedVariables false
set_option linter.unusedSimpArgs false

/-- A slot that is handed over. -/
structure SA where
  name : ByteArray
  ver : Int
  v : Value
  bs : List Int
/-- Slots that are handed over, in memory. -/
def SlotsIn (w : World) (p : Option Addr) (L : List SA) : Prop :=
  L.length ≤ 4611686018427387904 ∧ ∀ i (h : i < L.length), ∃ a, p = some a ∧ w.cell? (a.add (i * 3)) = some (.string L[i].name) ∧ w.cell? ⟨(a.add (i * 3)).block, (a.add (i * 3)).off + 1, none⟩ = some (.int .i64 L[i].ver) ∧ w.cell? ⟨(a.add (i * 3)).block, (a.add (i * 3)).off + 2, none⟩ = some L[i].v ∧ Reads w L[i].v L[i].bs
theorem SlotsIn.below {B : Nat} {w w' : World} {p : Option Addr} {L : List SA} (h : SlotsIn w p L) (hb : Below B w w') (hB : w.heap.size ≤ B) : SlotsIn w' p L := by
  refine ⟨h.1, fun i hi => ?_⟩
  obtain ⟨a, ha, h0, h1, h2, h3⟩ := h.2 i hi
  have hl : ∀ {q : Addr} {u : Value}, w.cell? q = some u → w'.cell? q = some u := fun {q u} hq => by
    have hlt := World.block_lt_of_cell? w _ hq
    rw [hb.cell (by omega)]; exact hq
  exact ⟨a, ha, hl h0, hl h1, hl h2, h3.below hb hB⟩

set_option maxRecDepth 100000 in
theorem unfit_calls (name : ByteArray) (ver : Int) (v : Value) (w : World) : Calls Try.prog 33 #[.agg #[.string name, .int .i64 ver, v]] w fun e w' => e = .returned (.bool (!fitB name)) ∧ Below w.heap.size w w' := by
  have hu28 := Try.underlying28
  go_enter Try.func33, Try.ntmps33
  go_wp2_with fail
  refine (fit_calls name _).mono ?_
  rintro e w1 ⟨rfl, ⟨nd, rfl⟩⟩
  go_wp2
  go_returns
  exact ⟨rfl, pw_below_drewN ((Below.refl _ w).alloc (Nat.le_refl _) _) _⟩

/-- The first name that may not be; -1: there is none. -/
def unfitAt (L : List SA) : Int := match L.findIdx? (fun x => !fitB x.name) with
  | some i => i
  | none => -1
theorem unfitAt_ge (L : List SA) : decide (0 ≤ unfitAt L) = !L.all fun x => fitB x.name := by
  unfold unfitAt
  cases h : L.findIdx? (fun x => !fitB x.name) with
  | some i =>
    have h1 := List.findIdx?_eq_some_iff_getElem.1 h
    obtain ⟨hi, h2, _⟩ := h1
    have : (L.all fun x => fitB x.name) = false := by
      rw [List.all_eq_false]
      exact ⟨L[i], List.getElem_mem hi, by simpa using h2⟩
    rw [this]; simp
  | none =>
    rw [List.findIdx?_eq_none_iff] at h
    have : (L.all fun x => fitB x.name) = true := by
      rw [List.all_eq_true]
      intro x hx
      simpa using h x hx
    rw [this]; simp

set_option maxHeartbeats 1000000 in
set_option maxRecDepth 100000 in
theorem index_calls {L : List SA} {A : Option Addr} {c : Nat} {w : World} (h : SlotsIn w A L) :
    Calls Try.prog 42 #[.slice A L.length c, .func (.func 33) #[] #[]] w fun e w' => e = .returned (.int .i64 (unfitAt L)) ∧ Below w.heap.size w w' := by
  have hu28 := Try.underlying28
  have H := Aside0.mk h.2
  have hmx := h.1
  clear h
  go_enter Try.func42, Try.ntmps42
  go_wp2_with fail
  go_loopw [8] (fun v8 wr => ∃ i : Nat, v8 = .int .i64 i ∧ Aside0 (i ≤ L.length) ∧ Aside0 (∀ (j : Nat) (h : j < L.length), j < i → (!fitB L[j].name) = false) ∧ Aside0 (Below w.heap.size w wr)) (fun v8 wr => L.length - (intOf v8).toNat)
  case atStart => exact ⟨0, rfl, ⟨Nat.zero_le _⟩, ⟨fun j _ h => by omega⟩, ⟨Below.refl _ _⟩⟩
  case round =>
    obtain ⟨i, rfl, hi, hs, HB⟩ := hrel
    by_cases hlt : i < L.length
    · have hlt' : ((i : Int) < (L.length : Int)) := by omega
      have hltb : decide ((i : Int) < (L.length : Int)) = true := decide_eq_true hlt'
      obtain ⟨ad, hA, x0, x1, x2, -⟩ := H.out i hlt
      cases hA
      replace x0 := (HB.out.cell (World.block_lt_of_cell? w _ x0)).trans x0
      replace x1 := (HB.out.cell (World.block_lt_of_cell? w _ x1)).trans x1
      replace x2 := (HB.out.cell (World.block_lt_of_cell? w _ x2)).trans x2
      go_wp2_with fail
      clear x0 x1 x2
      refine (unfit_calls _ _ _ _).mono ?_
      rintro e w' ⟨rfl, hb⟩
      have HB2 := Aside0.mk (below_step HB.out hb)
      clear hb
      cases hsm : fitB (L[i]'hlt).name with
      | true =>
        have hq := Aside0.mk (show ∀ (j : Nat) (h : j < L.length), j < i + 1 → (!fitB L[j].name) = false from fun j hj hji => by
          rcases Nat.lt_or_ge j i with h | h
          · exact hs.out j hj h
          · obtain rfl : j = i := by omega
            rw [hsm]; rfl)
        clear hsm
        go_wp2_with fail
        go_roundw
        case rel => exact ⟨i + 1, by go_num, ⟨hlt⟩, hq, HB2⟩
        case measure => simp [intOf]; omega
      | false =>
        have hq : Aside0 (unfitAt L = i) := ⟨by
          unfold unfitAt
          have : L.findIdx? (fun x => !fitB x.name) = some i := by
            rw [List.findIdx?_eq_some_iff_getElem]
            exact ⟨hlt, by rw [hsm]; rfl, fun j hj => by have := hs.out j (by omega) hj; simpa using this⟩
          rw [this]⟩
        clear hsm
        go_wp2_with fail
        go_returns
        exact ⟨by rw [hq.out]; rfl, HB2.out⟩
    · have hltb : decide ((i : Int) < (L.length : Int)) = false := decide_eq_false (by omega)
      have hz : Aside0 (unfitAt L = -1) := ⟨by
        unfold unfitAt
        have : L.findIdx? (fun x => !fitB x.name) = none := by
          rw [List.findIdx?_eq_none_iff]
          intro x hx
          obtain ⟨j, hj, rfl⟩ := List.getElem_of_mem hx
          exact hs.out j hj (by omega)
        rw [this]⟩
      go_wp2_with fail
      go_returns
      exact ⟨by rw [hz.out]; rfl, HB.out⟩

set_option maxHeartbeats 1000000 in
theorem contains_calls {L : List SA} {A : Option Addr} {c : Nat} {w : World} (h : SlotsIn w A L) :
    Calls Try.prog 22 #[.slice A L.length c, .func (.func 33) #[] #[]] w fun e w' => e = .returned (.bool (!L.all fun x => fitB x.name)) ∧ Below w.heap.size w w' := by
  have HC := Aside0.mk (index_calls (c := c) h)
  have hw := Aside0.mk (unfitAt_ge L)
  clear h
  go_enter Try.func22, Try.ntmps22
  go_wp2_with fail
  refine HC.out.mono ?_
  rintro e w' ⟨rfl, hb⟩
  have HB := Aside0.mk hb
  clear hb
  go_wp2_with fail
  go_returns
  exact ⟨by rw [← hw.out]; rfl, HB.out⟩
end Go.Proofs.Ytkjliijcnllohaa.S
