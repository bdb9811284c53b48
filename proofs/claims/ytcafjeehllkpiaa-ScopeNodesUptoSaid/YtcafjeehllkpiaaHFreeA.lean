/- scope.Free: the global names met, in a map; its keys, sorted. -/
import Derived.Test.YtcafjeehllkpiaaHSize
import Derived.Test.YtcafjeehllkpiaaHIter
import Derived.Maps.OwnOps
import Derived.Maps.OwnSet
import Derived.Sort.KeysCollected
import Derived.Sort.Walk0
namespace Go.Proofs.Ytcafjeehllkpiaa.D
open Go.RowKit Go.Proofs.YtcafjeehllkpiaaW.PrintWords Go.Proofs.YtcafjeehllkpiaaW.PrintLast Go.Proofs.YtcafjeehllkpiaaW.PrintMore
open Go.Maps
set_option linter.unusedVariables false
set_option linter.unusedSimpArgs false

/-! ### rising lists -/
def insL : List (List UInt8) → List UInt8 → List (List UInt8)
  | [], s => [s]
  | x :: l, s => if x = s then x :: l else if s < x then s :: x :: l else x :: insL l s
def setL (l : List (List UInt8)) : List (List UInt8) := l.foldl insL []
def Rising (l : List (List UInt8)) : Prop := l.Pairwise (· < ·)

theorem mem_insL (l : List (List UInt8)) (s x : List UInt8) : x ∈ insL l s ↔ x ∈ l ∨ x = s := by
  induction l with
  | nil => simp [insL]
  | cons a l ih =>
    simp only [insL]
    split
    · rename_i h; subst h; simp only [List.mem_cons]; constructor
      · exact .inl
      · rintro (h | rfl); exact h; exact .inl rfl
    · split
      · simp only [List.mem_cons]; constructor
        · rintro (rfl | h | h); exact .inr rfl; exact .inl (.inl h); exact .inl (.inr h)
        · rintro ((h | h) | h); exact .inr (.inl h); exact .inr (.inr h); exact .inl h
      · simp only [List.mem_cons, ih]; constructor
        · rintro (h | h | h); exact .inl (.inl h); exact .inl (.inr h); exact .inr h
        · rintro ((h | h) | h); exact .inl h; exact .inr (.inl h); exact .inr (.inr h)
theorem lt_of_not {a b : List UInt8} (h1 : ¬ a = b) (h2 : ¬ b < a) : a < b := by
  by_cases h : a < b
  · exact h
  · exact absurd (List.le_antisymm (List.not_lt.1 h2) (List.not_lt.1 h)) h1
theorem rising_insL (l : List (List UInt8)) (s : List UInt8) (h : Rising l) : Rising (insL l s) := by
  induction l with
  | nil => simp [insL, Rising]
  | cons a l ih =>
    obtain ⟨h1, h2⟩ := List.pairwise_cons.1 h
    simp only [insL]
    split
    · exact h
    · split
      · rename_i _ hs
        exact List.pairwise_cons.2 ⟨fun y hy => by
          rcases List.mem_cons.1 hy with rfl | hy
          · exact hs
          · exact List.lt_trans hs (h1 y hy), h⟩
      · rename_i hne hs
        exact List.pairwise_cons.2 ⟨fun y hy => by
          rcases (mem_insL l s y).1 hy with hy | rfl
          · exact h1 y hy
          · exact lt_of_not hne hs, ih h2⟩
theorem setL_both (l m : List (List UInt8)) (h : Rising m) : Rising (l.foldl insL m) ∧ ∀ x, x ∈ l.foldl insL m ↔ x ∈ m ∨ x ∈ l := by
  induction l generalizing m with
  | nil => simpa using h
  | cons a l ih =>
    obtain ⟨h1, h2⟩ := ih (insL m a) (rising_insL m a h)
    refine ⟨h1, fun x => ?_⟩
    rw [List.foldl_cons, h2 x, mem_insL, List.mem_cons]
    constructor
    · rintro ((h | h) | h); exact .inl h; exact .inr (.inl h); exact .inr (.inr h)
    · rintro (h | h | h); exact .inl (.inl h); exact .inl (.inr h); exact .inr h
theorem rising_setL (l : List (List UInt8)) : Rising (setL l) := (setL_both l [] List.Pairwise.nil).1
theorem mem_setL (l : List (List UInt8)) (x : List UInt8) : x ∈ setL l ↔ x ∈ l := ((setL_both l [] List.Pairwise.nil).2 x).trans (by simp)
theorem rising_ext {l m : List (List UInt8)} (hl : Rising l) (hm : Rising m) (h : ∀ x, x ∈ l ↔ x ∈ m) : l = m := by
  have nl : l.Nodup := List.Pairwise.imp (fun {a b} (hlt : a < b) (e : a = b) => List.lt_irrefl b (e ▸ hlt)) hl
  have nm : m.Nodup := List.Pairwise.imp (fun {a b} (hlt : a < b) (e : a = b) => List.lt_irrefl b (e ▸ hlt)) hm
  have hp := (List.perm_ext_iff_of_nodup nl nm).2 h
  exact hp.eq_of_pairwise (fun a b _ _ h1 h2 => absurd (List.lt_trans h1 h2) (List.lt_irrefl _)) hl hm
theorem sorted_rising {l : List (List UInt8)} (h : Rising l) : l.mergeSort (fun x y => decide (x ≤ y)) = l :=
  List.mergeSort_of_pairwise (h.imp (fun hlt => decide_eq_true (List.le_of_lt hlt)))

/-! ### the names met -/
def globB (x : S34) : Bool := x.f0 == 3 || x.f0 == 5 || x.f0 == 10
def freeStep (acc : List (List UInt8)) (x : S34) : List (List UInt8) := if globB x then acc ++ [x.f3.data.toList] else acc

/-- The captured map: its box, its block, the names that it has. -/
def Met (g b : Nat) (W : World) (acc : List (List UInt8)) : Prop :=
  W.heap[g]? = some (.cells #[.map (some b)] 28 (0, 0)) ∧ ∃ D : DataW Unit, W.ownsMap Try.prog 9 (plainElem Try.prog 4) b acc.length D ∧ ∀ x, has D (.string x) = true ↔ x ∈ acc
theorem Met.alloc {g b : Nat} {W : World} {acc : List (List UInt8)} (h : Met g b W acc) (o : Obj) : Met g b (W.alloc o) acc := by
  obtain ⟨h1, D, h2, h3⟩ := h
  exact ⟨blk_alloc h1 o, D, h2.alloc o, h3⟩

theorem law : Keyed Try.prog 9 := string_keyed Try.underlying9

set_option maxHeartbeats 2000000 in
theorem free_does (g b B : Nat) (hgb : g ≠ b) (hB2 : B < 9223372036854775807) : DoesAt freeStep 10 g (Met g b) (fun k => k = g ∨ k = b) List.length B := by
  intro w0 x acc va W hK hF hB hg hm hA
  have hu34 := Try.underlying34
  obtain ⟨A6, c6, A7, c7, A8, c8, rfl, l6, g6, l7, g7, l8, g8⟩ := k34_open hK
  obtain ⟨hbox, D, hown, hmem⟩ := hA
  have hlt := blk_lt hbox
  have hc : ∀ o : Obj, (W.alloc o).cell? ⟨g, 0, none⟩ = some (.map (some b)) := fun o => (blk_cell (blk_alloc hbox o) 0).trans rfl
  have hkey := Aside0.mk (Go.WideMaps.keyOf_string_mk Try.underlying9 (s := x.f3) (by simpa [maxLen] using (FitN_open hF).1))
  have HO := Aside0.mk hown
  have HM := Aside0.mk hmem
  have HX := Aside0.mk hbox
  have HB := Aside0.mk hB
  have HG := Aside0.mk (hg g (.inl rfl))
  have HG2 := Aside0.mk (hg b (.inr rfl))
  have Hm := Aside0.mk hm
  have HGB := Aside0.mk hgb
  have HBB := Aside0.mk hB2
  clear hbox hown hmem hB hg hK g6 g7 g8 l6 l7 l8 hm hF hgb hB2
  show Calls Try.prog 10 #[.agg #[.int .i64 x.f0, .int .i64 x.f1, .int .i64 x.f2, .string x.f3, .int .i64 x.f4.f0, .string x.f4.f1, .slice A6 x.f4.f2.length c6, .slice A7 x.f4.f3.length c7, .slice A8 x.f5.length c8], .pointer (some ⟨g, 0, none⟩)] W _
  have yes : globB x = true → ∀ (o : Obj) w1, w1.ownsMap Try.prog 9 (plainElem Try.prog 4) b (acc.length + 1) (D.put (.string x.f3.data.toList) (.lit (.bool true))) → (W.alloc o).grownBy w1 (some b) →
      Below w0.heap.size w0 w1 ∧ Met g b w1 (freeStep acc x) ∧ Kept W w1 (fun k => k = g ∨ k = b) := by
    intro hgl o w1 hown1 hgrow
    have hk : Kept W w1 (fun k => k = g ∨ k = b) := Kept.of_grown hgrow ((Kept.refl W _).alloc o) (fun k h => by cases h; exact .inl (.inr rfl))
    refine ⟨(below_alloc HB.out o).grown hgrow (by have := (below_alloc HB.out o).size; exact this) (fun k h => by cases h; exact HG2.out), ⟨?_, D.put (.string x.f3.data.toList) (.lit (.bool true)), ?_, fun y => ?_⟩, hk⟩
    · rw [hgrow.block g (by simp; omega) (by simpa using HGB.out)]; exact blk_alloc HX.out o
    · have : (freeStep acc x).length = acc.length + 1 := by simp [freeStep, hgl]
      rw [this]; exact hown1
    · have hmap := HO.out.isMap
      have hkl : WideAt.IsKeyLit (.string x.f3.data.toList) := by trivial
      by_cases e : y = x.f3.data.toList
      · subst e
        simp [has_put_same hmap hkl, freeStep, hgl]
      · rw [has_put_other (by simpa using e), HM.out y]
        simp [freeStep, hgl, e]
  have no : globB x = false → ∀ o : Obj, Below w0.heap.size w0 (W.alloc o) ∧ Met g b (W.alloc o) (freeStep acc x) ∧ Kept W (W.alloc o) (fun k => k = g ∨ k = b) := by
    intro hgl o
    have e : freeStep acc x = acc := by simp [freeStep, hgl]
    rw [e]
    exact ⟨below_alloc HB.out o, ⟨blk_alloc HX.out o, D, HO.out.alloc o, HM.out⟩, (Kept.refl W _).alloc o⟩
  have HY := Aside0.mk yes
  have HN := Aside0.mk no
  clear yes no
  cases k3 : (x.f0 == 3) with
  | true =>
    have q : Aside0 (globB x = true) := ⟨by simp [globB, k3]⟩
    go_enter Try.func10, Try.ntmps10
    go_wp2_with (at_mapUpdate; refine wpList_mapUpdate_own _ rfl _ _ _ 28 rfl 9 4 law Try.underlying28 _ b acc.length D rfl (HO.out.alloc _) (by have := Hm.out; have := HBB.out; unfold maxLen; omega) _ _ _ rfl rfl hkey.out _ [] (plainElem_bool Try.underlying4 true) ?_; intro w1 hown1 hgrow1)
    go_end0
    exact ⟨rfl, HY.out q.out _ _ hown1 hgrow1⟩
  | false =>
    have q3 := Aside0.mk (show ¬ x.f0 = 3 by simpa using k3)
    cases k5 : (x.f0 == 5) with
    | true =>
      have q : Aside0 (globB x = true) := ⟨by simp [globB, k5]⟩
      go_enter Try.func10, Try.ntmps10
      go_wp2_with (at_mapUpdate; refine wpList_mapUpdate_own _ rfl _ _ _ 28 rfl 9 4 law Try.underlying28 _ b acc.length D rfl (HO.out.alloc _) (by have := Hm.out; have := HBB.out; unfold maxLen; omega) _ _ _ rfl rfl hkey.out _ [] (plainElem_bool Try.underlying4 true) ?_; intro w1 hown1 hgrow1)
      go_end0
      exact ⟨rfl, HY.out q.out _ _ hown1 hgrow1⟩
    | false =>
      have q5 := Aside0.mk (show ¬ x.f0 = 5 by simpa using k5)
      cases k10 : (x.f0 == 10) with
      | true =>
        have q : Aside0 (globB x = true) := ⟨by simp [globB, k10]⟩
        go_enter Try.func10, Try.ntmps10
        go_wp2_with (at_mapUpdate; refine wpList_mapUpdate_own _ rfl _ _ _ 28 rfl 9 4 law Try.underlying28 _ b acc.length D rfl (HO.out.alloc _) (by have := Hm.out; have := HBB.out; unfold maxLen; omega) _ _ _ rfl rfl hkey.out _ [] (plainElem_bool Try.underlying4 true) ?_; intro w1 hown1 hgrow1)
        go_end0
        exact ⟨rfl, HY.out q.out _ _ hown1 hgrow1⟩
      | false =>
        have q : Aside0 (globB x = false) := ⟨by simp [globB, k3, k5, k10]⟩
        go_enter Try.func10, Try.ntmps10
        go_wp2_with fail
        go_end0
        exact ⟨rfl, HN.out q.out _⟩

theorem free_entry (args : Array Value) (w : World) : (callFunc 10 args).run Try.prog w = .ok (.enter 10 args) w := by
  have h1 : ¬ Try.f10.name = "runtime.NumGoroutine" := of_decide_eq_true (by kernel_rfl)
  have h2 : ¬ Try.f10.body = none := fun h => by have : Try.f10.body.isNone = false := by kernel_rfl
                                                 rw [h] at this; cases this
  simp [callFunc, Try.func10, h1, h2, Sem.run]
end Go.Proofs.Ytcafjeehllkpiaa.D
