
/- heap: calls that came in, read as values of Lean. -/
import Derived.Test.YtlghnldlkbgajaaHLw8
import Derived.Test.YtlghnldlkbgajaaRows
import Derived.Deep.Slices
import Derived.Lib.SmallJoins
import Derived.ChangeSame
namespace Go.Proofs.Ytlghnldlkbgajaa.S
open Go.RowKit Go.Proofs.YtlghnldlkbgajaaW.PrintWords Go.Proofs.YtlghnldlkbgajaaW.PrintLast Go.Proofs.YtlghnldlkbgajaaW.PrintMore
open Go.ChangeShapes Go.WideShapes Go.Deep Go.Joins
set_option linter.unusedVariables false
section
variable {H : Type} {enc : TypeId × Value → H} {w : World} {base : Nat} {spare : Nat → Bool} {held : Bool} {P : Program}
theorem trod_struct5 {t : TypeId} {f0 f1 f2 f3 f4 : Field} {fuel : Nat} {cs : List Value} {x : DataW H × List MemPlace} (ht : P.underlying t = some (.struct #[f0, f1, f2, f3, f4])) (h : DataW.trod enc P w base spare held fuel t cs = some x) :
    ∃ y0 y1 y2 y3 y4 n, x.1 = .agg [y0.1, y1.1, y2.1, y3.1, y4.1] ∧ cs.length = P.cellsOf t ∧ DataW.trod enc P w base spare held n f0.type ((cs.drop f0.offset).take (P.cellsOf f0.type)) = some y0 ∧
      DataW.trod enc P w base spare held n f1.type ((cs.drop f1.offset).take (P.cellsOf f1.type)) = some y1 ∧ DataW.trod enc P w base spare held n f2.type ((cs.drop f2.offset).take (P.cellsOf f2.type)) = some y2 ∧
      DataW.trod enc P w base spare held n f3.type ((cs.drop f3.offset).take (P.cellsOf f3.type)) = some y3 ∧ DataW.trod enc P w base spare held n f4.type ((cs.drop f4.offset).take (P.cellsOf f4.type)) = some y4 := by
  obtain ⟨xs, n, _, rfl, hl, hlen, hf⟩ := DataW.trod_struct ht h
  match xs, hlen with
  | [y0, y1, y2, y3, y4], _ => exact ⟨y0, y1, y2, y3, y4, n, by simp, hl, by simpa using hf 0 f0 rfl, by simpa using hf 1 f1 rfl, by simpa using hf 2 f2 rfl, by simpa using hf 3 f3 rfl, by simpa using hf 4 f4 rfl⟩
theorem bulk_pos (d : DataW H) : 1 ≤ Rows.uptoBulk d := by
  cases d with
  | lit l => cases l <;> simp [Rows.uptoBulk]
  | _ => simp [Rows.uptoBulk]
theorem bulkAll_len : ∀ l : List (DataW H), l.length ≤ Rows.uptoBulkAll l
  | [] => by simp [Rows.uptoBulkAll]
  | d :: l => by have := bulk_pos d; have := bulkAll_len l; simp only [Rows.uptoBulkAll, List.length_cons]; omega
theorem bulkAll_mem : ∀ {l : List (DataW H)} {d : DataW H}, d ∈ l → Rows.uptoBulk d ≤ Rows.uptoBulkAll l
  | a :: l, d, h => by
    simp only [Rows.uptoBulkAll]
    rcases List.mem_cons.1 h with rfl | h
    · omega
    · have := bulkAll_mem h; omega
theorem open_ints {t e : TypeId} (ht : Try.prog.underlying t = some (.slice e)) (he : Try.prog.underlying e = some (.int .i64)) (hc : Try.prog.cellsOf e = 1) {v : Value} {d : DataW H} {pl : List MemPlace} {fuel : Nat} (h : DataW.trod enc Try.prog w base spare held fuel t [v] = some (d, pl)) :
    ∃ (A : Option Addr) (c : Nat) (xs : List Int), v = .slice A xs.length c ∧ IntsAt w A xs ∧ xs.length ≤ Rows.uptoBulk d := by
  rcases open_slice ht h with ⟨hcs', hx⟩ | ⟨a, len, cap, m, n', D, Pl, hcs', _, hl, hm, hmm, hx, hi⟩
  · simp only [List.cons.injEq, and_true] at hcs'
    exact ⟨none, 0, [], hcs', fun i hi => absurd hi (by simp), by simp⟩
  · simp only [List.cons.injEq, and_true] at hcs'
    simp only [Prod.mk.injEq] at hx
    obtain ⟨rfl, -⟩ := hx
    have hlm : len ≤ m := by rw [hmm]; split <;> omega
    have key : ∀ i, i < len → ∃ x : Int, w.cell? (a.add i) = some (.int .i64 x) := fun i hil => by
      obtain ⟨cs', h1, h2⟩ := hi i (by omega)
      rw [hc] at h1
      obtain ⟨_, hcl, hat⟩ := World.cells?_some h1
      match cs', hcl with
      | [u], _ =>
        obtain ⟨k, e0, q0, hk0⟩ := DataW.trod_int he h2
        simp only [List.cons.injEq, and_true] at e0
        have := hat 0 (by omega)
        rw [Go.Deep.add_add] at this
        simp only [Nat.mul_one, Nat.add_zero] at this
        exact ⟨k, by rw [this, ← e0]; rfl⟩
    let f : Nat → Int := fun i => if h : i < len then Classical.choose (key i h) else 0
    have hf : ∀ i, i < len → w.cell? (a.add i) = some (.int .i64 (f i)) := fun i h => by
      have := Classical.choose_spec (key i h)
      simp only [f, dif_pos h]
      exact this
    refine ⟨some a, cap, (List.range len).map f, by simpa using hcs', fun i hi' => ?_, ?_⟩
    · have hi2 : i < len := by simpa using hi'
      refine ⟨a, rfl, ?_⟩
      rw [hf i hi2]
      simp [List.getD, hi2]
    · have := bulkAll_len ((List.range len).map D)
      simp only [List.length_map, List.length_range] at this
      simp only [Rows.uptoBulk, List.length_map, List.length_range]
      omega
def BoolsAt (w : World) (A : Option Addr) (n : Nat) : Prop := ∀ i, i < n → ∃ ad b, A = some ad ∧ w.cell? (ad.add i) = some (.bool b)
theorem open_bools {v : Value} {d : DataW H} {pl : List MemPlace} {fuel : Nat} (h : DataW.trod enc Try.prog w base spare held fuel 39 [v] = some (d, pl)) (hb : Rows.uptoBulk d ≤ 1048576) :
    ∃ (A : Option Addr) (n c : Nat), v = .slice A n c ∧ BoolsAt w A n ∧ n ≤ 1000000000 := by
  have hc4 : Try.prog.cellsOf 4 = 1 := by kernel_rfl
  rcases open_slice Try.underlying39 h with ⟨hcs', hx⟩ | ⟨a, len, cap, m, n', D, Pl, hcs', _, hl, hm, hmm, hx, hi⟩
  · simp only [List.cons.injEq, and_true] at hcs'
    exact ⟨none, 0, 0, hcs', fun i hi => absurd hi (by simp), by omega⟩
  · simp only [List.cons.injEq, and_true] at hcs'
    simp only [Prod.mk.injEq] at hx
    obtain ⟨rfl, -⟩ := hx
    have hlm : len ≤ m := by rw [hmm]; split <;> omega
    have hlb := bulkAll_len ((List.range len).map D)
    simp only [List.length_map, List.length_range] at hlb
    have hbd : Rows.uptoBulkAll ((List.range len).map D) ≤ 1048576 := by simp only [Rows.uptoBulk] at hb; omega
    refine ⟨some a, len, cap, hcs', fun i hil => ?_, by omega⟩
    obtain ⟨cs', h1, h2⟩ := hi i (by omega)
    rw [hc4] at h1
    obtain ⟨_, hcl, hat⟩ := World.cells?_some h1
    match cs', hcl with
    | [u], _ =>
      obtain ⟨k, e0, q0⟩ := DataW.trod_bool Try.underlying4 h2
      simp only [List.cons.injEq, and_true] at e0
      have := hat 0 (by omega)
      rw [Go.Deep.add_add] at this
      simp only [Nat.mul_one, Nat.add_zero] at this
      exact ⟨a, k, rfl, by rw [this, ← e0]; rfl⟩
set_option maxRecDepth 100000 in
theorem open_dos {v : Value} {d : DataW H} {pl : List MemPlace} {fuel : Nat} (h : DataW.trod enc Try.prog w base spare held fuel 38 [v] = some (d, pl)) (hb : Rows.uptoBulk d ≤ 1048576) :
    ∃ (A : Option Addr) (n c : Nat), v = .slice A n c ∧ DosAt w A n ∧ n ≤ 1000000000 := by
  rcases open_slice Try.underlying38 h with ⟨hcs', hx⟩ | ⟨a, len, cap, m, n', D, Pl, hcs', _, hl, hm, hmm, hx, hi⟩
  · simp only [List.cons.injEq, and_true] at hcs'
    exact ⟨none, 0, 0, hcs', fun i hi => absurd hi (by simp), by omega⟩
  · simp only [List.cons.injEq, and_true] at hcs'
    simp only [Prod.mk.injEq] at hx
    obtain ⟨rfl, -⟩ := hx
    have hlm : len ≤ m := by rw [hmm]; split <;> omega
    have hc59 : Try.prog.cellsOf 59 = 5 := by kernel_rfl
    have hc3 : Try.prog.cellsOf 3 = 1 := by kernel_rfl
    have hc9 : Try.prog.cellsOf 9 = 1 := by kernel_rfl
    have hc57 : Try.prog.cellsOf 57 = 1 := by kernel_rfl
    have hlb := bulkAll_len ((List.range len).map D)
    simp only [List.length_map, List.length_range] at hlb
    have hbd : Rows.uptoBulkAll ((List.range len).map D) ≤ 1048576 := by simp only [Rows.uptoBulk] at hb; omega
    refine ⟨some a, len, cap, hcs', fun i hil => ?_, by omega⟩
    obtain ⟨cs', h1, h2⟩ := hi i (by omega)
    rw [hc59] at h1
    obtain ⟨_, hcl, hat⟩ := World.cells?_some h1
    have hbi : Rows.uptoBulk (D i) ≤ 1048576 := Nat.le_trans (bulkAll_mem (List.mem_map.2 ⟨i, List.mem_range.2 hil, rfl⟩)) hbd
    obtain ⟨y0, y1, y2, y3, y4, mm, hx, hl, h0, hh1, hh2, hh3, hh4⟩ := trod_struct5 Try.underlying59 h2
    simp only at hx
    rw [hx] at hbi
    match cs', hcl with
    | [v0, v1, v2, v3, v4], _ =>
    simp only [hc3, hc9, hc57, List.drop_zero, List.take_succ_cons, List.take_zero, List.drop_succ_cons] at h0 hh1 hh2 hh3 hh4
    obtain ⟨k0, e0, q0, hk0⟩ := DataW.trod_int Try.underlying3 h0
    obtain ⟨k1, e1, q1, hk1⟩ := DataW.trod_int Try.underlying3 hh1
    obtain ⟨k2, e2, q2, hk2⟩ := DataW.trod_int Try.underlying3 hh2
    obtain ⟨s4, e4, q4, hk4⟩ := DataW.trod_string Try.underlying9 hh4
    obtain ⟨A3, c3, xs, e3, hxs, hxl⟩ := open_ints Try.underlying57 Try.underlying3 hc3 hh3
    simp only [List.cons.injEq, and_true] at e0 e1 e2 e4
    have hat' : ∀ j, j < 5 → w.cell? (a.add (i * 5 + j)) = [v0, v1, v2, v3, v4][j]? := fun j hj => by
      have := hat j hj
      rw [Go.Deep.add_add] at this
      exact this
    have hq4 : s4.size ≤ 1000000000 := by
      have hq : y4.1 = .lit (.string s4.data.toList) := by rw [q4]
      rw [hq] at hbi
      simp only [Rows.uptoBulk, Rows.uptoBulkAll] at hbi
      have : s4.data.toList.length = s4.size := by rw [Array.length_toList]; rfl
      omega
    refine ⟨a, k0, k1, k2, A3, c3, xs, s4, rfl, ?_, ?_, ?_, ?_, ?_, hxs, ?_, hq4⟩
    · rw [hat' 0 (by omega), e0]; rfl
    · rw [hat' 1 (by omega), e1]; rfl
    · rw [hat' 2 (by omega), e2]; rfl
    · rw [hat' 3 (by omega), e3]; rfl
    · rw [hat' 4 (by omega), e4]; rfl
    · simp only [Rows.uptoBulk, Rows.uptoBulkAll] at hbi
      omega
end
end Go.Proofs.Ytlghnldlkbgajaa.S
