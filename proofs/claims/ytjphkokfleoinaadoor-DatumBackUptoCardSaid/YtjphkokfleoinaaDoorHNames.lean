
/- Which texts are numbers, and which are names: plain functions over a text's bytes, and that the program tells just these. -/
import Derived.Test.YtjphkokfleoinaaDoorDx1
import Derived.Test.YtjphkokfleoinaaDoorHPart
import Derived.Lib.Strings
import Derived.Lib.IndexBytes
import Derived.Lib.IndexLaws
namespace Go.Proofs.YtjphkokfleoinaaDoor.D
open Go.RowKit Go.Proofs.YtjphkokfleoinaaDoorW.PrintWords Go.Proofs.YtjphkokfleoinaaDoorW.PrintLast Go.Proofs.YtjphkokfleoinaaDoorW.PrintMore
set_option linter.unusedVariables false

theorem len_size (s : ByteArray) : (bytesOf s).length = s.size := bytesOf_length s
theorem bt_get (s : ByteArray) (i : Nat) (h : i < s.size) : ∃ h2 : i < (bytesOf s).length, bt s (i : Int) = (bytesOf s)[i] := by
  have h2 : i < (bytesOf s).length := by rw [len_size]; exact h
  refine ⟨h2, ?_⟩
  rw [← rd_bytesOf, rd, Int.toNat_natCast, List.getD_eq_getElem?_getD, List.getElem?_eq_getElem h2, Option.getD_some]
theorem bt_head (s : ByteArray) (h : 0 < s.size) : ∃ c l, bytesOf s = c :: l ∧ bt s 0 = c := by
  obtain ⟨h2, e⟩ := bt_get s 0 h
  cases hb : bytesOf s with
  | nil => rw [hb] at h2; simp at h2
  | cons c l => exact ⟨c, l, rfl, by rw [show (0 : Int) = ((0 : Nat) : Int) from rfl, e]; simp [hb]⟩
theorem list_bytes (s : ByteArray) : bytesOf s = s.toList.map fun b => (b.toNat : Int) := by rw [bytesOf, Lib.toList_data]
theorem byte_inj {a b : UInt8} (h : (a.toNat : Int) = b.toNat) : a = b := UInt8.toNat_inj.1 (by omega)
theorem bytes_inj {l m : List UInt8} (h : (l.map fun b => (b.toNat : Int)) = m.map fun b => (b.toNat : Int)) : l = m := by
  induction l generalizing m with
  | nil => cases m with
    | nil => rfl
    | cons b m => simp at h
  | cons a l ih => cases m with
    | nil => simp at h
    | cons b m =>
      simp only [List.map_cons, List.cons.injEq] at h
      rw [byte_inj h.1, ih h.2]
theorem toList_iff (s : ByteArray) (m : List UInt8) : s.toList = m ↔ bytesOf s = m.map fun b => (b.toNat : Int) :=
  ⟨fun h => by rw [list_bytes, h], fun h => bytes_inj (by rw [← list_bytes, h])⟩
theorem bytes_cut (s : ByteArray) (a : Nat) : bytesOf (s.extract a s.size) = (bytesOf s).drop a := by
  rw [bytesOf, Lib.extract_to_end, bytesOf, List.map_drop]

def canL (l : List Int) : Bool :=
  let neg := l.head? == some 45
  let d := if neg then l.tail else l
  !d.isEmpty && decide (d.length ≤ 200) && !(d.head? == some 48 && (decide (1 < d.length) || neg)) && d.all digitB
def nameL (l : List Int) : Bool :=
  !l.isEmpty && decide (l.length ≤ 64) && !(l == [46]) && !digitB (l.getD 0 0) && !((l.getD 0 0 == 43 || l.getD 0 0 == 45) && decide (1 < l.length) && digitB (l.getD 1 0)) && l.all partB

/-- A loop over a text's bytes that ends at the first one that is wrong. -/
theorem all_loop (g : Nat → Int → Option Bool) (p : Int → Bool) (s : ByteArray) (hs : s.size ≤ 9223372036854775807)
    (h1 : ∀ k i : Nat, i < s.size → g (k + 1) i = if p (bt s i) = true then g k ((i + 1 : Nat) : Int) else some false) (h0 : ∀ k : Nat, g (k + 1) (s.size : Int) = some true) (d : Nat) :
    ∀ i : Nat, s.size - i = d → i ≤ s.size → Ev (fun k => g k i) (((bytesOf s).drop i).all p) := by
  induction d with
  | zero =>
    intro i hd hi
    obtain rfl : i = s.size := by omega
    rw [List.drop_eq_nil_of_le (by rw [len_size]; exact Nat.le_refl _)]
    exact Ev.step (f := fun _ => some true) (fun k => h0 k) (Ev.now _)
  | succ d ih =>
    intro i hd hi
    have hlt : i < s.size := by omega
    obtain ⟨h2, e⟩ := bt_get s i hlt
    refine Ev.step (h1 · i hlt) ?_
    rw [List.drop_eq_getElem_cons h2, List.all_cons, ← e]
    cases hp : p (bt s i) with
    | true => simpa using ih (i + 1) (by omega) (by omega)
    | false => simpa using Ev.now false

theorem up_ {i n : Nat} (h : i < n) (hn : n ≤ 9223372036854775807) : wrap64 ((i : Int) + 1) = ((i + 1 : Nat) : Int) := by
  unfold wrap64; omega

theorem can_l0 (s : ByteArray) (hs : s.size ≤ 9223372036854775807) : Ev (fun k => number_Can.l0 k s (s.size : Int) 0) ((bytesOf s).all digitB) := by
  have := all_loop (fun k i => number_Can.l0 k s (s.size : Int) i) digitB s hs (fun k i hi => by
    simp only [number_Can.l0]
    rw [if_pos (by omega), if_pos (by omega), if_pos (by omega), up_ hi hs]
    by_cases h1 : bt s i < 48
    · rw [if_pos h1, if_neg (by simp [digitB]; omega)]
    · by_cases h2 : bt s i > 57
      · rw [if_neg h1, if_pos h2, if_neg (by simp [digitB]; omega)]
      · rw [if_neg h1, if_neg h2, if_pos (by simp [digitB]; omega)]) (fun k => by
    simp only [number_Can.l0]; rw [if_neg (by omega)]) _ 0 rfl (Nat.zero_le _)
  simpa using this

theorem trim_minus (s : ByteArray) : ∃ t, strings_TrimPrefix.f s (⟨#[45]⟩ : ByteArray) = some t ∧ t.size ≤ s.size ∧ bytesOf t = (if (bytesOf s).head? == some 45 then (bytesOf s).tail else bytesOf s) ∧ (t.toList = s.toList ↔ ¬ (bytesOf s).head? = some 45) := by
  by_cases h0 : s.size = 0
  · have hb : bytesOf s = [] := by rw [← List.length_eq_zero_iff, len_size, h0]
    refine ⟨s, ?_, Nat.le_refl _, by rw [hb]; rfl, by simp [hb]⟩
    simp only [strings_TrimPrefix.f, stringslite_TrimPrefix.f, stringslite_HasPrefix.f]
    rw [if_neg (by show ¬ ((s.size : Int) ≥ 1); omega)]
    rfl
  · obtain ⟨c, l, hb, hc⟩ := bt_head s (by omega)
    have h1 : (s.extract 0 1).toList = [45] ↔ c = 45 := by
      rw [toList_iff, bytesOf, Lib.extract_data, List.drop_zero, Nat.sub_zero, List.map_take, show s.data.toList.map (fun b => (b.toNat : Int)) = bytesOf s from rfl, hb]
      simp
    have hpre : stringslite_HasPrefix.f s (⟨#[45]⟩ : ByteArray) = some (decide (c = 45)) := by
      simp only [stringslite_HasPrefix.f]
      rw [if_pos (by show (s.size : Int) ≥ 1; omega), if_pos (by show (0 : Int) ≤ 1; omega), if_pos (by show (1 : Int) ≤ s.size; omega)]
      congr 1
      show ((s.extract 0 1).toList == (⟨#[45]⟩ : ByteArray).toList) = _
      rw [show (⟨#[45]⟩ : ByteArray).toList = [45] from by rw [Lib.toList_data]]
      rw [Bool.eq_iff_iff, beq_iff_eq, decide_eq_true_eq, h1]
    by_cases hc45 : c = 45
    · refine ⟨s.extract 1 s.size, ?_, by simp, by rw [bytes_cut, hb, hc45]; rfl, ?_⟩
      · simp only [strings_TrimPrefix.f, stringslite_TrimPrefix.f, hpre, Option.bind_some]
        rw [if_pos (by simp [hc45]), if_pos (by show (0 : Int) ≤ 1; omega), if_pos (by show (1 : Int) ≤ s.size; omega)]
        rfl
      · constructor
        · intro h
          have := congrArg List.length ((toList_iff _ _).1 h)
          rw [bytes_cut, ← list_bytes, hb] at this
          simp at this
        · intro h; exact absurd (by rw [hb, hc45]; rfl) h
    · refine ⟨s, ?_, Nat.le_refl _, by rw [hb]; simp [hc45], by rw [hb]; simp [hc45]⟩
      simp only [strings_TrimPrefix.f, stringslite_TrimPrefix.f, hpre, Option.bind_some]
      rw [if_neg (by simp [hc45])]
      rfl

theorem can_prog (s : ByteArray) (hs : s.size ≤ 9223372036854775807) : Ev (fun k => number_Can.f k s) (canL (bytesOf s)) := by
  obtain ⟨t, ht, hle, hb, heq⟩ := trim_minus s
  have hj : Ev (fun k => number_Can.j0 k t) ((bytesOf t).all digitB) := Ev.step (f := fun k => number_Can.l0 k t (t.size : Int) 0) (fun k => by simp only [number_Can.j0]) (can_l0 t (by omega))
  have hE : (canL (bytesOf s)) = (!(bytesOf t).isEmpty && decide ((bytesOf t).length ≤ 200) && !((bytesOf t).head? == some 48 && (decide (1 < (bytesOf t).length) || ((bytesOf s).head? == some 45))) && (bytesOf t).all digitB) := by
    simp only [canL]; rw [← hb]
  rw [hE]
  by_cases h1 : bytesOf t = []
  · refine Ev.congr (f := fun _ => some false) (fun k => ?_) (by rw [h1]; exact Ev.now _)
    simp only [number_Can.f, ht, Option.bind_some]
    rw [if_pos ((toList_iff t []).2 (by simpa using h1))]
  · have hl : 0 < t.size := by rw [← len_size]; exact List.length_pos_iff.2 h1
    obtain ⟨c, l, hc, hbt⟩ := bt_head t hl
    have hne : ¬ t.toList = [] := fun h => h1 (by have := (toList_iff t []).1 h; simpa using this)
    by_cases h2 : 200 < t.size
    · refine Ev.congr (f := fun _ => some false) (fun k => ?_) (by rw [show decide ((bytesOf t).length ≤ 200) = false from decide_eq_false (by rw [len_size]; omega)]; simpa using Ev.now false)
      simp only [number_Can.f, ht, Option.bind_some]
      rw [if_neg hne, if_pos (by omega)]
    · have e2 : decide ((bytesOf t).length ≤ 200) = true := decide_eq_true (by rw [len_size]; omega)
      have e1 : (!(bytesOf t).isEmpty) = true := by rw [hc]; rfl
      have e3 : ((bytesOf t).head? == some 48) = decide (c = 48) := by rw [hc]; simp only [List.head?_cons]; by_cases h : c = 48 <;> simp [h]
      rw [e1, e2, e3, len_size]
      by_cases h3 : c = 48
      · by_cases h4 : 1 < t.size
        · refine Ev.congr (f := fun _ => some false) (fun k => ?_) (by simpa [h3, h4] using Ev.now false)
          simp only [number_Can.f, ht, Option.bind_some]
          rw [if_neg hne, if_neg (by omega), if_pos (by omega), if_pos (by rw [hbt, h3]), if_pos (by omega)]
        · by_cases h5 : (bytesOf s).head? = some 45
          · refine Ev.congr (f := fun _ => some false) (fun k => ?_) (by simpa [h3, h5] using Ev.now false)
            simp only [number_Can.f, ht, Option.bind_some]
            rw [if_neg hne, if_neg (by omega), if_pos (by omega), if_pos (by rw [hbt, h3]), if_neg (by omega), if_neg (fun h => heq.1 h h5)]
          · have e5 : ((bytesOf s).head? == some 45) = false := by simpa using h5
            refine Ev.congr (fun k => ?_) (by simpa [h3, h4, e5] using hj)
            simp only [number_Can.f, ht, Option.bind_some]
            rw [if_neg hne, if_neg (by omega), if_pos (by omega), if_pos (by rw [hbt, h3]), if_neg (by omega), if_pos (heq.2 h5)]
      · refine Ev.congr (fun k => ?_) (by simpa [h3] using hj)
        simp only [number_Can.f, ht, Option.bind_some]
        rw [if_neg hne, if_neg (by omega), if_pos (by omega), if_neg (by rw [hbt]; exact h3)]

end Go.Proofs.YtjphkokfleoinaaDoor.D
