
/- A datum that came in, read as a value of Lean: its cells, its bounds, its bulk. -/
import Derived.Test.YtjphkokfleoinaaDoorDx0
import Derived.Test.YtjphkokfleoinaaDoorRows
import Derived.Deep.Slices
import Derived.Lib.SmallJoins
import Derived.ChangeSame
namespace Go.Proofs.YtjphkokfleoinaaDoor.D
open Go.RowKit Go.Proofs.YtjphkokfleoinaaDoorW.PrintWords Go.Proofs.YtjphkokfleoinaaDoorW.PrintLast Go.Proofs.YtjphkokfleoinaaDoorW.PrintMore
open Go.ChangeShapes Go.WideShapes Go.Deep Go.Joins
set_option linter.unusedVariables false

mutual
/-- All its parts lie within the kinds' bounds. -/
def Fit : S24 → Prop
  | ⟨k, t, l, u⟩ => (Lit.int .i64 k).wf = true ∧ t.size ≤ 9223372036854775807 ∧ l.length ≤ 9223372036854775807 ∧ u.length ≤ 9223372036854775807 ∧ FitL l ∧ FitL u
def FitL : List S24 → Prop
  | [] => True
  | a :: l => Fit a ∧ FitL l
end
mutual
/-- Its bulk, but for spare places. -/
def wt : S24 → Nat
  | ⟨_, t, l, u⟩ => t.size + wtL l + wtL u + 5
def wtL : List S24 → Nat
  | [] => 0
  | a :: l => wt a + wtL l
end
theorem FitL_iff (l : List S24) : FitL l ↔ ∀ a ∈ l, Fit a := by
  induction l with
  | nil => simp [FitL]
  | cons a l ih => simp [FitL, ih]

section
variable {H : Type} {enc : TypeId × Value → H} {w : World} {base : Nat} {spare : Nat → Bool} {held : Bool}

theorem uptoBulkAll_map (D : Nat → DataW H) (f : Nat → S24) : ∀ n, (∀ i, i < n → wt (f i) ≤ Rows.uptoBulk (D i)) → wtL ((List.range n).map f) ≤ Rows.uptoBulkAll ((List.range n).map D) := by
  have hA : ∀ (l m : List (DataW H)), Rows.uptoBulkAll (l ++ m) = Rows.uptoBulkAll l + Rows.uptoBulkAll m := by
    intro l m; induction l with
    | nil => simp [Rows.uptoBulkAll]
    | cons a l ih => simp only [List.cons_append, Rows.uptoBulkAll, ih]; omega
  have hW : ∀ (l m : List S24), wtL (l ++ m) = wtL l + wtL m := by
    intro l m; induction l with
    | nil => simp [wtL]
    | cons a l ih => simp only [List.cons_append, wtL, ih]; omega
  intro n
  induction n with
  | zero => intro _; simp [wtL]
  | succ n ih =>
    intro h
    have h1 := ih (fun i hi => h i (by omega))
    have h2 := h n (by omega)
    rw [List.range_succ, List.map_append, List.map_append, hA, hW]
    simp only [List.map_cons, List.map_nil, wtL, Rows.uptoBulkAll]
    omega

theorem open_row (n : Nat) (ih : ∀ (cs : List Value) (d : DataW H) (pl : List MemPlace) (fuel : Nat), SizeOf.sizeOf d < n → DataW.trod enc Tryd.prog w base spare held fuel 24 cs = some (d, pl) → ∃ a : S24, k24.K w a cs ∧ Fit a ∧ wt a ≤ Rows.uptoBulk d)
    (v : Value) (d : DataW H) (pl : List MemPlace) (fuel : Nat) (hd : SizeOf.sizeOf d ≤ n) (h : DataW.trod enc Tryd.prog w base spare held fuel 22 [v] = some (d, pl)) :
    ∃ (A : Option Addr) (c : Nat) (l : List S24), v = .slice A l.length c ∧ l.length ≤ c ∧ k24.C w A l.length l ∧ l.length ≤ 9223372036854775807 ∧ FitL l ∧ wtL l + 1 ≤ Rows.uptoBulk d := by
  rcases open_slice Tryd.underlying22 h with ⟨hcs, hx⟩ | ⟨a, len, cap, m, n', D, Pl, hcs, _, hl, hm, hmm, hx, hi⟩
  · simp only [List.cons.injEq, and_true] at hcs
    simp only [Prod.mk.injEq] at hx
    obtain ⟨rfl, rfl⟩ := hx
    exact ⟨none, 0, [], hcs, Nat.le_refl _, Kd.C_nil _ _, by simp, by simp [FitL], by simp [wtL, Rows.uptoBulk]⟩
  · simp only [List.cons.injEq, and_true] at hcs
    simp only [Prod.mk.injEq] at hx
    obtain ⟨rfl, -⟩ := hx
    have hlm : len ≤ m := by rw [hmm]; split <;> omega
    have key : ∀ i, i < len → ∃ x : S24, (∃ cs', w.cells? base (a.add (i * 4)) 4 = some cs' ∧ k24.K w x cs') ∧ Fit x ∧ wt x ≤ Rows.uptoBulk (D i) := by
      intro i hil
      obtain ⟨cs', hc, ht⟩ := hi i (by omega)
      rw [show Tryd.prog.cellsOf 24 = 4 from by kernel_rfl] at hc
      have hs : SizeOf.sizeOf (D i) < SizeOf.sizeOf ((List.range len).map D) := List.sizeOf_lt_of_mem (List.mem_map.2 ⟨i, List.mem_range.2 hil, rfl⟩)
      have hs2 : SizeOf.sizeOf (D i) < n := by
        simp only [DataW.slice.sizeOf_spec] at hd
        omega
      obtain ⟨x, hx, hf, hwt⟩ := ih cs' (D i) (Pl i) n' hs2 ht
      exact ⟨x, ⟨cs', hc, hx⟩, hf, hwt⟩
    let f : Nat → S24 := fun i => if h : i < len then Classical.choose (key i h) else z24
    have hf : ∀ i, i < len → (∃ cs', w.cells? base (a.add (i * 4)) 4 = some cs' ∧ k24.K w (f i) cs') ∧ Fit (f i) ∧ wt (f i) ≤ Rows.uptoBulk (D i) := by
      intro i h
      have := Classical.choose_spec (key i h)
      simp only [f, dif_pos h]
      exact this
    refine ⟨some a, cap, (List.range len).map f, by simpa using hcs, by simpa using hl, ?_, by simp only [List.length_map, List.length_range]; simp only [maxLen] at hm; omega, ?_, ?_⟩
    · refine ⟨by simp, by simp only [List.length_map, List.length_range]; simp only [maxLen] at hm; omega, fun _ => ⟨a, rfl, ?_⟩⟩
      intro j p hj
      have hj2 : j < len := by
        have := (List.getElem?_eq_some_iff.1 hj).1
        simpa using this
      have hp : f j = p := by
        rw [List.getElem?_map, List.getElem?_range hj2] at hj
        simpa using hj
      subst hp
      obtain ⟨⟨cs', hc, hk⟩, _, _⟩ := hf j hj2
      obtain ⟨_, hcl, hat⟩ := World.cells?_some hc
      refine ⟨cs', hcl, hk, fun i u hu => ?_⟩
      have hi4 : i < 4 := by
        have := (List.getElem?_eq_some_iff.1 hu).1
        omega
      have := hat i hi4
      rw [show k24.sz = 4 from rfl, ← Go.Deep.add_add, this, hu]
    · rw [FitL_iff]
      intro x hx
      obtain ⟨i, hi', rfl⟩ := List.mem_map.1 hx
      exact (hf i (List.mem_range.1 hi')).2.1
    · have := uptoBulkAll_map D f len (fun i h => (hf i h).2.2)
      simp only [Rows.uptoBulk]
      omega

theorem open24 (n : Nat) : ∀ (cs : List Value) (d : DataW H) (pl : List MemPlace) (fuel : Nat), SizeOf.sizeOf d < n → DataW.trod enc Tryd.prog w base spare held fuel 24 cs = some (d, pl) → ∃ a : S24, k24.K w a cs ∧ Fit a ∧ wt a ≤ Rows.uptoBulk d := by
  induction n with
  | zero => intro _ _ _ _ h; omega
  | succ n ih =>
    intro cs d pl fuel hd h
    obtain ⟨y0, y1, y2, y3, m, hx, hl, h0, h1, h2, h3⟩ := trod_struct4 Tryd.underlying24 h
    simp only [Prod.mk.injEq] at hx
    obtain ⟨rfl, -⟩ := hx
    have hc24 : Tryd.prog.cellsOf 24 = 4 := by kernel_rfl
    have hc3 : Tryd.prog.cellsOf 3 = 1 := by kernel_rfl
    have hc9 : Tryd.prog.cellsOf 9 = 1 := by kernel_rfl
    have hc22 : Tryd.prog.cellsOf 22 = 1 := by kernel_rfl
    rw [hc24] at hl
    match cs, hl with
    | [v0, v1, v2, v3], _ =>
    simp only [hc3, hc9, hc22, List.drop_zero, List.take_succ_cons, List.take_zero, List.drop_succ_cons] at h0 h1 h2 h3
    obtain ⟨k, e0, rfl, hk⟩ := DataW.trod_int Tryd.underlying3 h0
    obtain ⟨t, e1, rfl, ht⟩ := DataW.trod_string Tryd.underlying9 h1
    simp only [List.cons.injEq, and_true] at e0 e1
    subst e0 e1
    have hd' : SizeOf.sizeOf y2.1 < n ∧ SizeOf.sizeOf y3.1 < n := by
      simp only [DataW.agg.sizeOf_spec, List.cons.sizeOf_spec, List.nil.sizeOf_spec] at hd
      omega
    obtain ⟨A2, c2, l2, rfl, hl2, hC2, hm2, hf2, hw2⟩ := open_row n ih v2 y2.1 y2.2 m (by omega) h2
    obtain ⟨A3, c3, l3, rfl, hl3, hC3, hm3, hf3, hw3⟩ := open_row n ih v3 y3.1 y3.2 m (by omega) h3
    refine ⟨⟨k, t, l2, l3⟩, k24_mk w ⟨k, t, l2, l3⟩ hl2 hC2 hl3 hC3, ⟨hk, by simpa [maxLen] using ht, hm2, hm3, hf2, hf3⟩, ?_⟩
    simp only [wt, Rows.uptoBulk, Rows.uptoBulkAll, Array.length_toList]
    have : t.data.size = t.size := rfl
    omega
end

end Go.Proofs.YtjphkokfleoinaaDoor.D
