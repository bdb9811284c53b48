
/- A datum's text, in plain words: the bytes that datum.write writes. -/
import Derived.Test.YtjphkokfleoinaaDoorDx0
import Derived.Test.YtjphkokfleoinaaDoorHNames
import Derived.Lib.UnsafeStr
import Derived.Lib.Bytealg
namespace Go.Proofs.YtjphkokfleoinaaDoor.D
open Go.RowKit Go.Proofs.YtjphkokfleoinaaDoorW.PrintWords Go.Proofs.YtjphkokfleoinaaDoorW.PrintLast Go.Proofs.YtjphkokfleoinaaDoorW.PrintMore
set_option linter.unusedVariables false
set_option linter.unusedSimpArgs false

/-- One byte of a string, as it is written. -/
def escOne (c : UInt8) : List UInt8 := if c = 92 then [92, 92] else if c = 34 then [92, 34] else if c = 10 then [92, 110] else if c = 9 then [92, 116] else [c]
def escB : List UInt8 → List UInt8
  | [] => []
  | c :: l => escOne c ++ escB l
theorem escB_append (a b : List UInt8) : escB (a ++ b) = escB a ++ escB b := by
  induction a with
  | nil => rfl
  | cons c a ih => simp only [List.cons_append, escB, ih, List.append_assoc]
theorem escB_take (l : List UInt8) (i : Nat) (h : i < l.length) : escB (l.take (i + 1)) = escB (l.take i) ++ escOne l[i] := by
  rw [List.take_succ_eq_append_getElem h, escB_append]
  simp [escB]
theorem escB_pre (l : List UInt8) (i : Nat) : (escB (l.take i)).length ≤ (escB l).length := by
  have h : escB l = escB (l.take i) ++ escB (l.drop i) := by rw [← escB_append, List.take_append_drop]
  have := congrArg List.length h
  simp only [List.length_append] at this
  omega
theorem escOne_pos (c : UInt8) : 1 ≤ (escOne c).length := by
  unfold escOne; repeat' split
  all_goals simp
theorem escB_ge (l : List UInt8) : l.length ≤ (escB l).length := by
  induction l with
  | nil => simp
  | cons c l ih => simp only [escB, List.length_append, List.length_cons]; have := escOne_pos c; omega
/-- The place of a byte among those that are written behind a backslash. -/
theorem esc_index (c : UInt8) : (Lib.indexByte [92, 34, 10, 9] c = -1 ∧ escOne c = [c]) ∨ (∃ k : Nat, k < 4 ∧ Lib.indexByte [92, 34, 10, 9] c = (k : Int) ∧ escOne c = [92, ([92, 34, 110, 116] : List UInt8)[k]!]) := by
  by_cases h1 : c = 92
  · subst h1; exact .inr ⟨0, by omega, by decide, by decide⟩
  · by_cases h2 : c = 34
    · subst h2; exact .inr ⟨1, by omega, by decide, by decide⟩
    · by_cases h3 : c = 10
      · subst h3; exact .inr ⟨2, by omega, by decide, by decide⟩
      · by_cases h4 : c = 9
        · subst h4; exact .inr ⟨3, by omega, by decide, by decide⟩
        · refine .inl ⟨?_, by unfold escOne; rw [if_neg h1, if_neg h2, if_neg h3, if_neg h4]⟩
          have e : ∀ b : UInt8, c ≠ b → (b == c) = false := fun b hb => by simpa using fun h => hb h.symm
          simp [Lib.indexByte, e _ h1, e _ h2, e _ h3, e _ h4]

mutual
/-- A datum's text. -/
def putB : S24 → List UInt8
  | ⟨k, t, l, u⟩ => if k = 3 then [34] ++ escB t.data.toList ++ [34] else if k = 6 then [35] ++ [40] ++ putL true l ++ putT u ++ [41] else if k = 5 then [40] ++ putL true l ++ putT u ++ [41] else t.data.toList
def putL : Bool → List S24 → List UInt8
  | _, [] => []
  | true, a :: l => putB a ++ putL false l
  | false, a :: l => [32] ++ putB a ++ putL false l
def putT : List S24 → List UInt8
  | [] => []
  | a :: l => [32, 46, 32] ++ putB a ++ putT l
end
theorem putL_false (l m : List S24) : putL false (l ++ m) = putL false l ++ putL false m := by
  induction l with
  | nil => rfl
  | cons a l ih => simp only [List.cons_append, putL, ih, List.append_assoc]
theorem putT_append (l m : List S24) : putT (l ++ m) = putT l ++ putT m := by
  induction l with
  | nil => rfl
  | cons a l ih => simp only [List.cons_append, putT, ih, List.append_assoc]
def sep (i : Nat) : List UInt8 := if i = 0 then [] else [32]
theorem putL_split (l m : List S24) : putL true (l ++ m) = putL true l ++ putL (l.isEmpty) m := by
  cases l with
  | nil => rfl
  | cons a l => simp only [List.cons_append, putL, putL_false, List.isEmpty_cons, List.append_assoc]
theorem putL_take (l : List S24) (i : Nat) (h : i < l.length) : putL true (l.take (i + 1)) = putL true (l.take i) ++ sep i ++ putB l[i] := by
  rw [List.take_succ_eq_append_getElem h, putL_split]
  cases i with
  | zero => simp [sep, putL]
  | succ i =>
    have : (l.take (i + 1)).isEmpty = false := by cases l with
      | nil => simp at h
      | cons a l => rfl
    rw [this]
    simp [sep, putL]
theorem putT_take (l : List S24) (i : Nat) (h : i < l.length) : putT (l.take (i + 1)) = putT (l.take i) ++ [32, 46, 32] ++ putB l[i] := by
  rw [List.take_succ_eq_append_getElem h, putT_append]
  simp [putT]
theorem putL_pre (l : List S24) (i : Nat) : (putL true (l.take i)).length ≤ (putL true l).length := by
  have h := putL_split (l.take i) (l.drop i)
  rw [List.take_append_drop] at h
  have := congrArg List.length h
  simp only [List.length_append] at this
  omega
theorem putT_pre (l : List S24) (i : Nat) : (putT (l.take i)).length ≤ (putT l).length := by
  have h := putT_append (l.take i) (l.drop i)
  rw [List.take_append_drop] at h
  have := congrArg List.length h
  simp only [List.length_append] at this
  omega
theorem byteCells_append (a b : List UInt8) : Lib.byteCells (a ++ b) = Lib.byteCells a ++ Lib.byteCells b := by simp [Lib.byteCells]
theorem byteCells_length (a : List UInt8) : (Lib.byteCells a).length = a.length := by simp [Lib.byteCells]
end Go.Proofs.YtjphkokfleoinaaDoor.D
