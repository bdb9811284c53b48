
/- A code that came in, read as values of Lean: its cells, its bounds, its bulk; and what the bulk gives. -/
import Derived.Test.YtpkfppfdkdjlhaaDoorHLaw
import Derived.Test.YtpkfppfdkdjlhaaDoorHKind
import Derived.Test.YtpkfppfdkdjlhaaDoorHRef4
namespace Go.Proofs.YtpkfppfdkdjlhaaDoor.D
open Go Go.Proofs Go.RowKit Go.Proofs.YtpkfppfdkdjlhaaDoorW.PrintWords Go.Proofs.YtpkfppfdkdjlhaaDoorW.PrintLast Go.Proofs.YtpkfppfdkdjlhaaDoorW.PrintMore
open Go.ChangeShapes Go.WideShapes Go.Deep Go.Joins
set_option linter.unusedVariables false

section
variable {H : Type} {enc : TypeId × Value → H} {w : World} {base : Nat} {spare : Nat → Bool} {held : Bool} {P : Program}

theorem trod_struct3a {t : TypeId} {f0 f1 f2 : Field} {fuel : Nat} {cs : List Value} {x : DataW H × List MemPlace} (ht : P.underlying t = some (.struct #[f0, f1, f2])) (h : DataW.trod enc P w base spare held fuel t cs = some x) :
    ∃ y0 y1 y2 n, x.1 = .agg [y0.1, y1.1, y2.1] ∧ cs.length = P.cellsOf t ∧ DataW.trod enc P w base spare held n f0.type ((cs.drop f0.offset).take (P.cellsOf f0.type)) = some y0 ∧
      DataW.trod enc P w base spare held n f1.type ((cs.drop f1.offset).take (P.cellsOf f1.type)) = some y1 ∧ DataW.trod enc P w base spare held n f2.type ((cs.drop f2.offset).take (P.cellsOf f2.type)) = some y2 := by
  obtain ⟨xs, n, _, rfl, hl, hlen, hf⟩ := DataW.trod_struct ht h
  match xs, hlen with
  | [y0, y1, y2], _ => exact ⟨y0, y1, y2, n, by simp, hl, by simpa using hf 0 f0 rfl, by simpa using hf 1 f1 rfl, by simpa using hf 2 f2 rfl⟩

theorem bulkAll_mapK {α : Type} (wt : α → Nat) (D : Nat → DataW H) (f : Nat → α) : ∀ n, (∀ i, i < n → wt (f i) ≤ Rows.uptoBulk (D i)) → (((List.range n).map f).map wt).sum ≤ Rows.uptoBulkAll ((List.range n).map D) := by
  have hA : ∀ (l m : List (DataW H)), Rows.uptoBulkAll (l ++ m) = Rows.uptoBulkAll l + Rows.uptoBulkAll m := by
    intro l m; induction l with
    | nil => simp [Rows.uptoBulkAll]
    | cons a l ih => simp only [List.cons_append, Rows.uptoBulkAll, ih]; omega
  intro n
  induction n with
  | zero => intro _; simp
  | succ n ih =>
    intro h
    have h1 := ih (fun i hi => h i (by omega))
    have h2 := h n (by omega)
    rw [List.range_succ, List.map_append, List.map_append, List.map_append, hA, List.sum_append]
    simp only [List.map_cons, List.map_nil, Rows.uptoBulkAll, List.sum_cons, List.sum_nil]
    omega

/-- A slice of elements of whatever kind, opened. -/
theorem open_rowK {α : Type} (kd : Kd α) (t e : TypeId) (ht : P.underlying t = some (.slice e)) (hcs : P.cellsOf e = kd.sz) (z : α) (Good : α → Prop) (wt : α → Nat) (n : Nat)
    (ih : ∀ (cs : List Value) (d : DataW H) (pl : List MemPlace) (fuel : Nat), SizeOf.sizeOf d < n → DataW.trod enc P w base spare held fuel e cs = some (d, pl) → ∃ a : α, kd.K w a cs ∧ Good a ∧ wt a ≤ Rows.uptoBulk d)
    (v : Value) (d : DataW H) (pl : List MemPlace) (fuel : Nat) (hd : SizeOf.sizeOf d ≤ n) (h : DataW.trod enc P w base spare held fuel t [v] = some (d, pl)) :
    ∃ (A : Option Addr) (c : Nat) (l : List α), v = .slice A l.length c ∧ l.length ≤ c ∧ kd.C w A l.length l ∧ l.length ≤ 9223372036854775807 ∧ (∀ x ∈ l, Good x) ∧ (l.map wt).sum + 1 ≤ Rows.uptoBulk d := by
  rcases open_slice ht h with ⟨hcs', hx⟩ | ⟨a, len, cap, m, n', D, Pl, hcs', _, hl, hm, hmm, hx, hi⟩
  · simp only [List.cons.injEq, and_true] at hcs'
    simp only [Prod.mk.injEq] at hx
    obtain ⟨rfl, rfl⟩ := hx
    exact ⟨none, 0, [], hcs', Nat.le_refl _, Kd.C_nil _ _, by simp, by simp, by simp [Rows.uptoBulk]⟩
  · simp only [List.cons.injEq, and_true] at hcs'
    simp only [Prod.mk.injEq] at hx
    obtain ⟨rfl, -⟩ := hx
    have hlm : len ≤ m := by rw [hmm]; split <;> omega
    have key : ∀ i, i < len → ∃ x : α, (∃ cs', w.cells? base (a.add (i * kd.sz)) kd.sz = some cs' ∧ kd.K w x cs') ∧ Good x ∧ wt x ≤ Rows.uptoBulk (D i) := by
      intro i hil
      obtain ⟨cs', hc, ht⟩ := hi i (by omega)
      rw [hcs] at hc
      have hs : SizeOf.sizeOf (D i) < SizeOf.sizeOf ((List.range len).map D) := List.sizeOf_lt_of_mem (List.mem_map.2 ⟨i, List.mem_range.2 hil, rfl⟩)
      have hs2 : SizeOf.sizeOf (D i) < n := by
        simp only [DataW.slice.sizeOf_spec] at hd
        omega
      obtain ⟨x, hx, hf, hwt⟩ := ih cs' (D i) (Pl i) n' hs2 ht
      exact ⟨x, ⟨cs', hc, hx⟩, hf, hwt⟩
    let f : Nat → α := fun i => if h : i < len then Classical.choose (key i h) else z
    have hf : ∀ i, i < len → (∃ cs', w.cells? base (a.add (i * kd.sz)) kd.sz = some cs' ∧ kd.K w (f i) cs') ∧ Good (f i) ∧ wt (f i) ≤ Rows.uptoBulk (D i) := by
      intro i h
      have := Classical.choose_spec (key i h)
      simp only [f, dif_pos h]
      exact this
    refine ⟨some a, cap, (List.range len).map f, by simpa using hcs', by simpa using hl, ?_, by simp only [List.length_map, List.length_range]; simp only [maxLen] at hm; omega, ?_, ?_⟩
    · refine ⟨by simp, by simp only [List.length_map, List.length_range]; simp only [maxLen] at hm; omega, fun _ => ⟨a, rfl, ?_⟩⟩
      intro j p hj
      have hj2 : j < len := by
        have := (List.getElem?_eq_some_iff.1 hj).1
        simpa using this
      have hp : f j = p := by
        rw [List.getElem?_map, List.getElem?_range hj2] at hj
        simpa using hj
      subst hp
      obtain ⟨⟨cs', hc, hk⟩, _, _⟩ := hf j hj2
      obtain ⟨_, hcl, hat⟩ := World.cells?_some hc
      refine ⟨cs', hcl, hk, fun i u hu => ?_⟩
      have hi4 : i < kd.sz := by
        have := (List.getElem?_eq_some_iff.1 hu).1
        omega
      have := hat i hi4
      rw [← Go.Deep.add_add, this, hu]
    · intro x hx
      obtain ⟨i, hi', rfl⟩ := List.mem_map.1 hx
      exact (hf i (List.mem_range.1 hi')).2.1
    · have := bulkAll_mapK wt D f len (fun i h => (hf i h).2.2)
      simp only [Rows.uptoBulk]
      omega

theorem open40 (n : Nat) (cs : List Value) (d : DataW H) (pl : List MemPlace) (fuel : Nat) (hd : SizeOf.sizeOf d < n) (h : DataW.trod enc Tryd.prog w base spare held fuel 40 cs = some (d, pl)) : ∃ a : S40, k40.K w a cs ∧ True ∧ 1 ≤ Rows.uptoBulk d := by
  obtain ⟨y0, y1, y2, m, hx, hl, h0, h1, h2⟩ := trod_struct3a Tryd.underlying40 h
  simp only at hx
  subst hx
  have hc40 : Tryd.prog.cellsOf 40 = 3 := by kernel_rfl
  have hc3 : Tryd.prog.cellsOf 3 = 1 := by kernel_rfl
  rw [hc40] at hl
  match cs, hl with
  | [v0, v1, v2], _ =>
  simp only [hc3, List.drop_zero, List.take_succ_cons, List.take_zero, List.drop_succ_cons] at h0 h1 h2
  obtain ⟨k0, e0, q0, hk0⟩ := DataW.trod_int Tryd.underlying3 h0
  obtain ⟨k1, e1, q1, hk1⟩ := DataW.trod_int Tryd.underlying3 h1
  obtain ⟨k2, e2, q2, hk2⟩ := DataW.trod_int Tryd.underlying3 h2
  simp only [List.cons.injEq, and_true] at e0 e1 e2
  subst e0 e1 e2
  exact ⟨⟨k0, k1, k2⟩, k40_mk w ⟨k0, k1, k2⟩, trivial, by simp only [Rows.uptoBulk]; omega⟩
theorem open9 (n : Nat) (cs : List Value) (d : DataW H) (pl : List MemPlace) (fuel : Nat) (hd : SizeOf.sizeOf d < n) (h : DataW.trod enc Tryd.prog w base spare held fuel 9 cs = some (d, pl)) : ∃ a : ByteArray, Kd.string.K w a cs ∧ True ∧ a.size + 1 ≤ Rows.uptoBulk d := by
  obtain ⟨t, rfl, hx, ht⟩ := DataW.trod_string Tryd.underlying9 h
  simp only [Prod.mk.injEq] at hx
  obtain ⟨rfl, -⟩ := hx
  refine ⟨t, rfl, trivial, ?_⟩
  simp only [Rows.uptoBulk, Array.length_toList]
  have : t.data.size = t.size := rfl
  omega

theorem open26 (cs : List Value) (d : DataW H) (pl : List MemPlace) (fuel : Nat) (h : DataW.trod enc Tryd.prog w base spare held fuel 26 cs = some (d, pl)) :
    ∃ (I : List S40) (D : List S42) (Nm : List ByteArray) (A0 A1 A2 : Option Addr) (c0 c1 c2 : Nat), cs = [.slice A0 I.length c0, .slice A1 D.length c1, .slice A2 Nm.length c2] ∧ CodeAt w I D Nm A0 A1 A2 c0 c1 c2 ∧
      FitL D ∧ I.length + wtL D + (Nm.map fun s => s.size + 1).sum ≤ Rows.uptoBulk d := by
  obtain ⟨y0, y1, y2, m, hx, hl, h0, h1, h2⟩ := trod_struct3a Tryd.underlying26 h
  simp only at hx
  subst hx
  have hc26 : Tryd.prog.cellsOf 26 = 3 := by kernel_rfl
  have hc22 : Tryd.prog.cellsOf 22 = 1 := by kernel_rfl
  have hc23 : Tryd.prog.cellsOf 23 = 1 := by kernel_rfl
  have hc24 : Tryd.prog.cellsOf 24 = 1 := by kernel_rfl
  rw [hc26] at hl
  match cs, hl with
  | [v0, v1, v2], _ =>
  simp only [hc22, hc23, hc24, List.drop_zero, List.take_succ_cons, List.take_zero, List.drop_succ_cons] at h0 h1 h2
  obtain ⟨A0, c0, I, rfl, hl0, hC0, hm0, -, hw0⟩ := open_rowK k40 22 40 Tryd.underlying22 (by kernel_rfl) ⟨0, 0, 0⟩ (fun _ => True) (fun _ => 1) _ (open40 _) v0 y0.1 y0.2 m (Nat.le_refl _) h0
  obtain ⟨A1, c1, D, rfl, hl1, hC1, hm1, hf1, hw1⟩ := open_row _ (open42 _) v1 y1.1 y1.2 m (Nat.le_refl _) h1
  obtain ⟨A2, c2, Nm, rfl, hl2, hC2, hm2, -, hw2⟩ := open_rowK Kd.string 24 9 Tryd.underlying24 (by kernel_rfl) ByteArray.empty (fun _ => True) (fun s => s.size + 1) _ (open9 _) v2 y2.1 y2.2 m (Nat.le_refl _) h2
  refine ⟨I, D, Nm, A0, A1, A2, c0, c1, c2, rfl, ⟨hC0, hl0, hC1, hl1, hC2, hl2⟩, hf1, ?_⟩
  have hs : ∀ l : List S40, (l.map fun _ => 1).sum = l.length := fun l => by
    induction l with
    | nil => rfl
    | cons a l ih => simp only [List.map_cons, List.sum_cons, ih, List.length_cons]; omega
  rw [hs] at hw0
  simp only [Rows.uptoBulk, Rows.uptoBulkAll]
  omega
end

theorem datB_len (x : S42) : (datum_PrintB x).size ≤ (putB x).length := by
  unfold datum_PrintB
  split
  · exact Nat.le_of_eq List.size_toArray
  · exact Nat.zero_le _
theorem codeOk_of {I : List S40} {D : List S42} {Nm : List ByteArray} (hf : FitL D) (h : I.length + wtL D + (Nm.map fun s => s.size + 1).sum ≤ 1048576) : CodeOk I D Nm := by
  have hD : ∀ l : List S42, (l.flatMap datL).length ≤ 12 * wtL l ∧ (∀ x ∈ l, wt x ≤ wtL l) := fun l => by
    induction l with
    | nil => simp [wtL]
    | cons a l ih =>
      have h1 := put_wt _ a (Nat.le_refl _)
      have h2 := datB_len a
      have h3 : (varL (datum_PrintB a).size).length ≤ 10 := varL_len _
      have h4 : 5 ≤ wt a := by cases a; simp only [wt]; omega
      refine ⟨?_, fun x hx => ?_⟩
      · simp only [List.flatMap_cons, List.length_append, datL, txtL, wtL, bytesOf, List.length_map] at ih ⊢
        have h5 : (datum_PrintB a).data.toList.length = (datum_PrintB a).size := Array.length_toList
        omega
      · simp only [wtL]
        rcases List.mem_cons.1 hx with rfl | hx
        · omega
        · have := ih.2 x hx; omega
  have hN : ∀ l : List ByteArray, (l.flatMap txtL).length ≤ 10 * (l.map fun s => s.size + 1).sum ∧ (∀ s ∈ l, s.size ≤ (l.map fun s => s.size + 1).sum) := fun l => by
    induction l with
    | nil => simp
    | cons a l ih =>
      have h3 : (varL (a.size : Int)).length ≤ 10 := varL_len _
      refine ⟨?_, fun x hx => ?_⟩
      · simp only [List.flatMap_cons, List.length_append, txtL, bytesOf, List.length_map, List.map_cons, List.sum_cons] at ih ⊢
        have h5 : a.data.toList.length = a.size := Array.length_toList
        omega
      · simp only [List.map_cons, List.sum_cons]
        rcases List.mem_cons.1 hx with rfl | hx
        · omega
        · have := ih.2 x hx; omega
  have hI : ∀ L : List S40, (L.flatMap insL).length ≤ 30 * L.length := fun L => by
    induction L with
    | nil => simp
    | cons a L ih =>
      have e0 := varL_len a.f0
      have e1 := varL_len a.f1
      have e2 := varL_len a.f2
      simp only [List.flatMap_cons, insL, List.length_append, List.length_cons] at ih ⊢
      omega
  refine ⟨fun i hi => (FitL_iff D).1 hf _ ?_, fun s hs => ?_, fun x hx => ?_, ?_⟩
  · rw [rd_cast' hi]; exact List.getElem_mem hi
  · have := (hN Nm).2 s hs; omega
  · have h1 := put_wt _ x (Nat.le_refl _)
    have h2 := (hD D).2 x hx
    omega
  · have h1 := (hD D).1
    have h2 := (hN Nm).1
    have h3 := hI I
    have v1 := varL_len (I.length : Int)
    have v2 := varL_len (D.length : Int)
    have v3 := varL_len (Nm.length : Int)
    unfold encL
    simp only [List.length_append]
    omega
end Go.Proofs.YtpkfppfdkdjlhaaDoor.D
