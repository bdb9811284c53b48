/- Nodes that came in, read as values of Lean: their cells, their bounds, their bulk. -/
import Derived.Test.YtcafjeehllkpiaaHEach
import Derived.Test.YtcafjeehllkpiaaRows
import Derived.Deep.Slices
import Derived.Lib.SmallJoins
import Derived.ChangeSame
namespace Go.Proofs.Ytcafjeehllkpiaa.D
open Go.RowKit Go.Proofs.YtcafjeehllkpiaaW.PrintWords Go.Proofs.YtcafjeehllkpiaaW.PrintLast Go.Proofs.YtcafjeehllkpiaaW.PrintMore
open Go.ChangeShapes Go.WideShapes Go.Deep Go.Joins
set_option linter.unusedVariables false

section
variable {H : Type} {enc : TypeId × Value → H} {w : World} {base : Nat} {spare : Nat → Bool} {held : Bool} {P : Program}

theorem trod_struct6 {t : TypeId} {f0 f1 f2 f3 f4 f5 : Field} {fuel : Nat} {cs : List Value} {x : DataW H × List MemPlace} (ht : P.underlying t = some (.struct #[f0, f1, f2, f3, f4, f5])) (h : DataW.trod enc P w base spare held fuel t cs = some x) :
    ∃ y0 y1 y2 y3 y4 y5 n, x.1 = .agg [y0.1, y1.1, y2.1, y3.1, y4.1, y5.1] ∧ cs.length = P.cellsOf t ∧ DataW.trod enc P w base spare held n f0.type ((cs.drop f0.offset).take (P.cellsOf f0.type)) = some y0 ∧
      DataW.trod enc P w base spare held n f1.type ((cs.drop f1.offset).take (P.cellsOf f1.type)) = some y1 ∧ DataW.trod enc P w base spare held n f2.type ((cs.drop f2.offset).take (P.cellsOf f2.type)) = some y2 ∧
      DataW.trod enc P w base spare held n f3.type ((cs.drop f3.offset).take (P.cellsOf f3.type)) = some y3 ∧ DataW.trod enc P w base spare held n f4.type ((cs.drop f4.offset).take (P.cellsOf f4.type)) = some y4 ∧
      DataW.trod enc P w base spare held n f5.type ((cs.drop f5.offset).take (P.cellsOf f5.type)) = some y5 := by
  obtain ⟨xs, n, _, rfl, hl, hlen, hf⟩ := DataW.trod_struct ht h
  match xs, hlen with
  | [y0, y1, y2, y3, y4, y5], _ => exact ⟨y0, y1, y2, y3, y4, y5, n, by simp, hl, by simpa using hf 0 f0 rfl, by simpa using hf 1 f1 rfl, by simpa using hf 2 f2 rfl, by simpa using hf 3 f3 rfl, by simpa using hf 4 f4 rfl, by simpa using hf 5 f5 rfl⟩

theorem bulkAll_map {α : Type} (wt : α → Nat) (D : Nat → DataW H) (f : Nat → α) : ∀ n, (∀ i, i < n → wt (f i) ≤ Rows.uptoBulk (D i)) → (((List.range n).map f).map wt).sum ≤ Rows.uptoBulkAll ((List.range n).map D) := by
  have hA : ∀ (l m : List (DataW H)), Rows.uptoBulkAll (l ++ m) = Rows.uptoBulkAll l + Rows.uptoBulkAll m := by
    intro l m; induction l with
    | nil => simp [Rows.uptoBulkAll]
    | cons a l ih => simp only [List.cons_append, Rows.uptoBulkAll, ih]; omega
  intro n
  induction n with
  | zero => intro _; simp
  | succ n ih =>
    intro h
    have h1 := ih (fun i hi => h i (by omega))
    have h2 := h n (by omega)
    rw [List.range_succ, List.map_append, List.map_append, List.map_append, hA, List.sum_append]
    simp only [List.map_cons, List.map_nil, Rows.uptoBulkAll, List.sum_cons, List.sum_nil]
    omega

/-- A slice of elements of whatever kind, opened. -/
theorem open_rowK {α : Type} (kd : Kd α) (t e : TypeId) (ht : P.underlying t = some (.slice e)) (hcs : P.cellsOf e = kd.sz) (z : α) (Good : α → Prop) (wt : α → Nat) (n : Nat)
    (ih : ∀ (cs : List Value) (d : DataW H) (pl : List MemPlace) (fuel : Nat), SizeOf.sizeOf d < n → DataW.trod enc P w base spare held fuel e cs = some (d, pl) → ∃ a : α, kd.K w a cs ∧ Good a ∧ wt a ≤ Rows.uptoBulk d)
    (v : Value) (d : DataW H) (pl : List MemPlace) (fuel : Nat) (hd : SizeOf.sizeOf d ≤ n) (h : DataW.trod enc P w base spare held fuel t [v] = some (d, pl)) :
    ∃ (A : Option Addr) (c : Nat) (l : List α), v = .slice A l.length c ∧ l.length ≤ c ∧ kd.C w A l.length l ∧ l.length ≤ 9223372036854775807 ∧ (∀ x ∈ l, Good x) ∧ (l.map wt).sum + 1 ≤ Rows.uptoBulk d := by
  rcases open_slice ht h with ⟨hcs', hx⟩ | ⟨a, len, cap, m, n', D, Pl, hcs', _, hl, hm, hmm, hx, hi⟩
  · simp only [List.cons.injEq, and_true] at hcs'
    simp only [Prod.mk.injEq] at hx
    obtain ⟨rfl, rfl⟩ := hx
    exact ⟨none, 0, [], hcs', Nat.le_refl _, Kd.C_nil _ _, by simp, by simp, by simp [Rows.uptoBulk]⟩
  · simp only [List.cons.injEq, and_true] at hcs'
    simp only [Prod.mk.injEq] at hx
    obtain ⟨rfl, -⟩ := hx
    have hlm : len ≤ m := by rw [hmm]; split <;> omega
    have key : ∀ i, i < len → ∃ x : α, (∃ cs', w.cells? base (a.add (i * kd.sz)) kd.sz = some cs' ∧ kd.K w x cs') ∧ Good x ∧ wt x ≤ Rows.uptoBulk (D i) := by
      intro i hil
      obtain ⟨cs', hc, ht⟩ := hi i (by omega)
      rw [hcs] at hc
      have hs : SizeOf.sizeOf (D i) < SizeOf.sizeOf ((List.range len).map D) := List.sizeOf_lt_of_mem (List.mem_map.2 ⟨i, List.mem_range.2 hil, rfl⟩)
      have hs2 : SizeOf.sizeOf (D i) < n := by
        simp only [DataW.slice.sizeOf_spec] at hd
        omega
      obtain ⟨x, hx, hf, hwt⟩ := ih cs' (D i) (Pl i) n' hs2 ht
      exact ⟨x, ⟨cs', hc, hx⟩, hf, hwt⟩
    let f : Nat → α := fun i => if h : i < len then Classical.choose (key i h) else z
    have hf : ∀ i, i < len → (∃ cs', w.cells? base (a.add (i * kd.sz)) kd.sz = some cs' ∧ kd.K w (f i) cs') ∧ Good (f i) ∧ wt (f i) ≤ Rows.uptoBulk (D i) := by
      intro i h
      have := Classical.choose_spec (key i h)
      simp only [f, dif_pos h]
      exact this
    refine ⟨some a, cap, (List.range len).map f, by simpa using hcs', by simpa using hl, ?_, by simp only [List.length_map, List.length_range]; simp only [maxLen] at hm; omega, ?_, ?_⟩
    · refine ⟨by simp, by simp only [List.length_map, List.length_range]; simp only [maxLen] at hm; omega, fun _ => ⟨a, rfl, ?_⟩⟩
      intro j p hj
      have hj2 : j < len := by
        have := (List.getElem?_eq_some_iff.1 hj).1
        simpa using this
      have hp : f j = p := by
        rw [List.getElem?_map, List.getElem?_range hj2] at hj
        simpa using hj
      subst hp
      obtain ⟨⟨cs', hc, hk⟩, _, _⟩ := hf j hj2
      obtain ⟨_, hcl, hat⟩ := World.cells?_some hc
      refine ⟨cs', hcl, hk, fun i u hu => ?_⟩
      have hi4 : i < kd.sz := by
        have := (List.getElem?_eq_some_iff.1 hu).1
        omega
      have := hat i hi4
      rw [← Go.Deep.add_add, this, hu]
    · intro x hx
      obtain ⟨i, hi', rfl⟩ := List.mem_map.1 hx
      exact (hf i (List.mem_range.1 hi')).2.1
    · have := bulkAll_map wt D f len (fun i h => (hf i h).2.2)
      simp only [Rows.uptoBulk]
      omega

theorem open32 (n : Nat) : ∀ (cs : List Value) (d : DataW H) (pl : List MemPlace) (fuel : Nat), SizeOf.sizeOf d < n → DataW.trod enc Try.prog w base spare held fuel 32 cs = some (d, pl) → ∃ a : S32, k32.K w a cs ∧ True ∧ 0 ≤ Rows.uptoBulk d := by
  induction n with
  | zero => intro _ _ _ _ h; omega
  | succ n ih =>
    intro cs d pl fuel hd h
    obtain ⟨y0, y1, y2, y3, m, hx, hl, h0, h1, h2, h3⟩ := trod_struct4 Try.underlying32 h
    simp only [Prod.mk.injEq] at hx
    obtain ⟨rfl, -⟩ := hx
    have hc24 : Try.prog.cellsOf 32 = 4 := by kernel_rfl
    have hc3 : Try.prog.cellsOf 3 = 1 := by kernel_rfl
    have hc9 : Try.prog.cellsOf 9 = 1 := by kernel_rfl
    have hc22 : Try.prog.cellsOf 30 = 1 := by kernel_rfl
    rw [hc24] at hl
    match cs, hl with
    | [v0, v1, v2, v3], _ =>
    simp only [hc3, hc9, hc22, List.drop_zero, List.take_succ_cons, List.take_zero, List.drop_succ_cons] at h0 h1 h2 h3
    obtain ⟨k, e0, rfl, hk⟩ := DataW.trod_int Try.underlying3 h0
    obtain ⟨t, e1, rfl, ht⟩ := DataW.trod_string Try.underlying9 h1
    simp only [List.cons.injEq, and_true] at e0 e1
    subst e0 e1
    have hd' : SizeOf.sizeOf y2.1 < n ∧ SizeOf.sizeOf y3.1 < n := by
      simp only [DataW.agg.sizeOf_spec, List.cons.sizeOf_spec, List.nil.sizeOf_spec] at hd
      omega
    obtain ⟨A2, c2, l2, rfl, hl2, hC2, hm2, -, -⟩ := open_rowK k32 30 32 Try.underlying30 (by kernel_rfl) z32 (fun _ => True) (fun _ => 0) n ih v2 y2.1 y2.2 m (by omega) h2
    obtain ⟨A3, c3, l3, rfl, hl3, hC3, hm3, -, -⟩ := open_rowK k32 30 32 Try.underlying30 (by kernel_rfl) z32 (fun _ => True) (fun _ => 0) n ih v3 y3.1 y3.2 m (by omega) h3
    exact ⟨⟨k, t, l2, l3⟩, k32_mk w ⟨k, t, l2, l3⟩ hl2 hC2 hl3 hC3, trivial, Nat.zero_le _⟩

theorem cntL_sum (l : List S34) : cntL l = (l.map cntN).sum := by
  induction l with
  | nil => simp [cntL]
  | cons a l ih => simp only [cntL, ih, List.map_cons, List.sum_cons]

theorem open34 (n : Nat) : ∀ (cs : List Value) (d : DataW H) (pl : List MemPlace) (fuel : Nat), SizeOf.sizeOf d < n → DataW.trod enc Try.prog w base spare held fuel 34 cs = some (d, pl) → ∃ a : S34, k34.K w a cs ∧ FitN a ∧ cntN a ≤ Rows.uptoBulk d := by
  induction n with
  | zero => intro _ _ _ _ h; omega
  | succ n ih =>
    intro cs d pl fuel hd h
    obtain ⟨y0, y1, y2, y3, y4, y5, m, hx, hl, h0, h1, h2, h3, h4, h5⟩ := trod_struct6 Try.underlying34 h
    simp only at hx
    subst hx
    have hc24 : Try.prog.cellsOf 34 = 9 := by kernel_rfl
    have hc3 : Try.prog.cellsOf 3 = 1 := by kernel_rfl
    have hc9 : Try.prog.cellsOf 9 = 1 := by kernel_rfl
    have hc32 : Try.prog.cellsOf 32 = 4 := by kernel_rfl
    have hc22 : Try.prog.cellsOf 22 = 1 := by kernel_rfl
    rw [hc24] at hl
    match cs, hl with
    | [v0, v1, v2, v3, v4, v5, v6, v7, v8], _ =>
    simp only [hc3, hc9, hc22, hc32, List.drop_zero, List.take_succ_cons, List.take_zero, List.drop_succ_cons] at h0 h1 h2 h3 h4 h5
    obtain ⟨k0, e0, q0, hk0⟩ := DataW.trod_int Try.underlying3 h0
    obtain ⟨k1, e1, q1, hk1⟩ := DataW.trod_int Try.underlying3 h1
    obtain ⟨k2, e2, q2, hk2⟩ := DataW.trod_int Try.underlying3 h2
    obtain ⟨t, e3, q3, ht⟩ := DataW.trod_string Try.underlying9 h3
    simp only [List.cons.injEq, and_true] at e0 e1 e2 e3
    subst e0 e1 e2 e3
    have hd' : SizeOf.sizeOf y4.1 < n ∧ SizeOf.sizeOf y5.1 < n := by
      simp only [DataW.agg.sizeOf_spec, List.cons.sizeOf_spec, List.nil.sizeOf_spec] at hd
      omega
    obtain ⟨x4, hx4, -, -⟩ := open32 (SizeOf.sizeOf y4.1 + 1) [v4, v5, v6, v7] y4.1 y4.2 m (Nat.lt_succ_self _) h4
    obtain ⟨A6, c6, A7, c7, e4, l6, g6, l7, g7⟩ := k32_open hx4
    simp only [List.cons.injEq, and_true] at e4
    obtain ⟨rfl, rfl, rfl, rfl⟩ := e4
    obtain ⟨A8, c8, l8, rfl, hl8, hC8, hm8, hf8, hw8⟩ := open_rowK k34 22 34 Try.underlying22 (by kernel_rfl) z34 FitN cntN n ih v8 y5.1 y5.2 m (by omega) h5
    refine ⟨⟨k0, k1, k2, t, x4, l8⟩, k34_mk w ⟨k0, k1, k2, t, x4, l8⟩ l6 g6 l7 g7 hl8 hC8, ?_, ?_⟩
    · simp only [FitN]
      exact ⟨by simpa [maxLen] using ht, hm8, (FitL_iff l8).2 hf8⟩
    · simp only [cntN, cntL_sum, Rows.uptoBulk, Rows.uptoBulkAll]
      omega
end
end Go.Proofs.Ytcafjeehllkpiaa.D
