/- Which texts are numbers: that the program and the reference tell just these. number.Small, number.Of: their contracts, where the library's variables lie as the program lays them. -/
import Derived.Test.YtlnneellihkdkaaDoorDx1
import Derived.Test.YtlnneellihkdkaaDoorDx10
import Derived.Test.YtlnneellihkdkaaDoorNText
import Derived.Lib.Strings
import Derived.Lib.IndexBytes
import Derived.Lib.IndexLaws
import Derived.Test.YtlnneellihkdkaaDoorHShelf
import Derived.Lib.SmallJoins
import Derived.Lib.AppendIntMem
import Derived.Lib.AtoiErrMem
import Derived.Lib.LaidTab
namespace Go.Proofs.YtlnneellihkdkaaDoor.D
open Go.RowKit Go.Proofs.YtlnneellihkdkaaDoorW.PrintWords Go.Proofs.YtlnneellihkdkaaDoorW.PrintLast Go.Proofs.YtlnneellihkdkaaDoorW.PrintMore
set_option linter.unusedVariables false

def digitB (c : Int) : Bool := decide (48 ≤ c) && decide (c ≤ 57)
theorem len_size (s : ByteArray) : (bytesOf s).length = s.size := bytesOf_length s
theorem bt_get (s : ByteArray) (i : Nat) (h : i < s.size) : ∃ h2 : i < (bytesOf s).length, bt s (i : Int) = (bytesOf s)[i] := by
  have h2 : i < (bytesOf s).length := by rw [len_size]; exact h
  refine ⟨h2, ?_⟩
  rw [← rd_bytesOf, rd, Int.toNat_natCast, List.getD_eq_getElem?_getD, List.getElem?_eq_getElem h2, Option.getD_some]
theorem bt_head (s : ByteArray) (h : 0 < s.size) : ∃ c l, bytesOf s = c :: l ∧ bt s 0 = c := by
  obtain ⟨h2, e⟩ := bt_get s 0 h
  cases hb : bytesOf s with
  | nil => rw [hb] at h2; simp at h2
  | cons c l => exact ⟨c, l, rfl, by rw [show (0 : Int) = ((0 : Nat) : Int) from rfl, e]; simp [hb]⟩
theorem list_bytes (s : ByteArray) : bytesOf s = s.toList.map fun b => (b.toNat : Int) := by rw [bytesOf, Lib.toList_data]
theorem byte_inj {a b : UInt8} (h : (a.toNat : Int) = b.toNat) : a = b := UInt8.toNat_inj.1 (by omega)
theorem bytes_inj {l m : List UInt8} (h : (l.map fun b => (b.toNat : Int)) = m.map fun b => (b.toNat : Int)) : l = m := by
  induction l generalizing m with
  | nil => cases m with
    | nil => rfl
    | cons b m => simp at h
  | cons a l ih => cases m with
    | nil => simp at h
    | cons b m =>
      simp only [List.map_cons, List.cons.injEq] at h
      rw [byte_inj h.1, ih h.2]
theorem toList_iff (s : ByteArray) (m : List UInt8) : s.toList = m ↔ bytesOf s = m.map fun b => (b.toNat : Int) :=
  ⟨fun h => by rw [list_bytes, h], fun h => bytes_inj (by rw [← list_bytes, h])⟩
theorem bytes_cut (s : ByteArray) (a : Nat) : bytesOf (s.extract a s.size) = (bytesOf s).drop a := by
  rw [bytesOf, Lib.extract_to_end, bytesOf, List.map_drop]

def canL (l : List Int) : Bool :=
  let neg := l.head? == some 45
  let d := if neg then l.tail else l
  !d.isEmpty && decide (d.length ≤ 200) && !(d.head? == some 48 && (decide (1 < d.length) || neg)) && d.all digitB
/-- A loop over a text's bytes that ends at the first one that is wrong. -/
theorem all_loop (g : Nat → Int → Option Bool) (p : Int → Bool) (s : ByteArray) (hs : s.size ≤ 9223372036854775807)
    (h1 : ∀ k i : Nat, i < s.size → g (k + 1) i = if p (bt s i) = true then g k ((i + 1 : Nat) : Int) else some false) (h0 : ∀ k : Nat, g (k + 1) (s.size : Int) = some true) (d : Nat) :
    ∀ i : Nat, s.size - i = d → i ≤ s.size → Ev (fun k => g k i) (((bytesOf s).drop i).all p) := by
  induction d with
  | zero =>
    intro i hd hi
    obtain rfl : i = s.size := by omega
    rw [List.drop_eq_nil_of_le (by rw [len_size]; exact Nat.le_refl _)]
    exact Ev.step (f := fun _ => some true) (fun k => h0 k) (Ev.now _)
  | succ d ih =>
    intro i hd hi
    have hlt : i < s.size := by omega
    obtain ⟨h2, e⟩ := bt_get s i hlt
    refine Ev.step (h1 · i hlt) ?_
    rw [List.drop_eq_getElem_cons h2, List.all_cons, ← e]
    cases hp : p (bt s i) with
    | true => simpa using ih (i + 1) (by omega) (by omega)
    | false => simpa using Ev.now false

theorem up_ {i n : Nat} (h : i < n) (hn : n ≤ 9223372036854775807) : wrap64 ((i : Int) + 1) = ((i + 1 : Nat) : Int) := by
  unfold wrap64; omega

theorem can_l0 (s : ByteArray) (hs : s.size ≤ 9223372036854775807) : Ev (fun k => number_Can.l0 k s (s.size : Int) 0) ((bytesOf s).all digitB) := by
  have := all_loop (fun k i => number_Can.l0 k s (s.size : Int) i) digitB s hs (fun k i hi => by
    simp only [number_Can.l0]
    rw [if_pos (by omega), if_pos (by omega), if_pos (by omega), up_ hi hs]
    by_cases h1 : bt s i < 48
    · rw [if_pos h1, if_neg (by simp [digitB]; omega)]
    · by_cases h2 : bt s i > 57
      · rw [if_neg h1, if_pos h2, if_neg (by simp [digitB]; omega)]
      · rw [if_neg h1, if_neg h2, if_pos (by simp [digitB]; omega)]) (fun k => by
    simp only [number_Can.l0]; rw [if_neg (by omega)]) _ 0 rfl (Nat.zero_le _)
  simpa using this

theorem trim_minus (s : ByteArray) : ∃ t, strings_TrimPrefix.f s (⟨#[45]⟩ : ByteArray) = some t ∧ t.size ≤ s.size ∧ bytesOf t = (if (bytesOf s).head? == some 45 then (bytesOf s).tail else bytesOf s) ∧ (t.toList = s.toList ↔ ¬ (bytesOf s).head? = some 45) := by
  by_cases h0 : s.size = 0
  · have hb : bytesOf s = [] := by rw [← List.length_eq_zero_iff, len_size, h0]
    refine ⟨s, ?_, Nat.le_refl _, by rw [hb]; rfl, by simp [hb]⟩
    simp only [strings_TrimPrefix.f, stringslite_TrimPrefix.f, stringslite_HasPrefix.f]
    rw [if_neg (by show ¬ ((s.size : Int) ≥ 1); omega)]
    rfl
  · obtain ⟨c, l, hb, hc⟩ := bt_head s (by omega)
    have h1 : (s.extract 0 1).toList = [45] ↔ c = 45 := by
      rw [toList_iff, bytesOf, Lib.extract_data, List.drop_zero, Nat.sub_zero, List.map_take, show s.data.toList.map (fun b => (b.toNat : Int)) = bytesOf s from rfl, hb]
      simp
    have hpre : stringslite_HasPrefix.f s (⟨#[45]⟩ : ByteArray) = some (decide (c = 45)) := by
      simp only [stringslite_HasPrefix.f]
      rw [if_pos (by show (s.size : Int) ≥ 1; omega), if_pos (by show (0 : Int) ≤ 1; omega), if_pos (by show (1 : Int) ≤ s.size; omega)]
      congr 1
      show ((s.extract 0 1).toList == (⟨#[45]⟩ : ByteArray).toList) = _
      rw [show (⟨#[45]⟩ : ByteArray).toList = [45] from by rw [Lib.toList_data]]
      rw [Bool.eq_iff_iff, beq_iff_eq, decide_eq_true_eq, h1]
    by_cases hc45 : c = 45
    · refine ⟨s.extract 1 s.size, ?_, by simp, by rw [bytes_cut, hb, hc45]; rfl, ?_⟩
      · simp only [strings_TrimPrefix.f, stringslite_TrimPrefix.f, hpre, Option.bind_some]
        rw [if_pos (by simp [hc45]), if_pos (by show (0 : Int) ≤ 1; omega), if_pos (by show (1 : Int) ≤ s.size; omega)]
        rfl
      · constructor
        · intro h
          have := congrArg List.length ((toList_iff _ _).1 h)
          rw [bytes_cut, ← list_bytes, hb] at this
          simp at this
        · intro h; exact absurd (by rw [hb, hc45]; rfl) h
    · refine ⟨s, ?_, Nat.le_refl _, by rw [hb]; simp [hc45], by rw [hb]; simp [hc45]⟩
      simp only [strings_TrimPrefix.f, stringslite_TrimPrefix.f, hpre, Option.bind_some]
      rw [if_neg (by simp [hc45])]
      rfl

theorem can_prog (s : ByteArray) (hs : s.size ≤ 9223372036854775807) : Ev (fun k => number_Can.f k s) (canL (bytesOf s)) := by
  obtain ⟨t, ht, hle, hb, heq⟩ := trim_minus s
  have hj : Ev (fun k => number_Can.j0 k t) ((bytesOf t).all digitB) := Ev.step (f := fun k => number_Can.l0 k t (t.size : Int) 0) (fun k => by simp only [number_Can.j0]) (can_l0 t (by omega))
  have hE : (canL (bytesOf s)) = (!(bytesOf t).isEmpty && decide ((bytesOf t).length ≤ 200) && !((bytesOf t).head? == some 48 && (decide (1 < (bytesOf t).length) || ((bytesOf s).head? == some 45))) && (bytesOf t).all digitB) := by
    simp only [canL]; rw [← hb]
  rw [hE]
  by_cases h1 : bytesOf t = []
  · refine Ev.congr (f := fun _ => some false) (fun k => ?_) (by rw [h1]; exact Ev.now _)
    simp only [number_Can.f, ht, Option.bind_some]
    rw [if_pos ((toList_iff t []).2 (by simpa using h1))]
  · have hl : 0 < t.size := by rw [← len_size]; exact List.length_pos_iff.2 h1
    obtain ⟨c, l, hc, hbt⟩ := bt_head t hl
    have hne : ¬ t.toList = [] := fun h => h1 (by have := (toList_iff t []).1 h; simpa using this)
    by_cases h2 : 200 < t.size
    · refine Ev.congr (f := fun _ => some false) (fun k => ?_) (by rw [show decide ((bytesOf t).length ≤ 200) = false from decide_eq_false (by rw [len_size]; omega)]; simpa using Ev.now false)
      simp only [number_Can.f, ht, Option.bind_some]
      rw [if_neg hne, if_pos (by omega)]
    · have e2 : decide ((bytesOf t).length ≤ 200) = true := decide_eq_true (by rw [len_size]; omega)
      have e1 : (!(bytesOf t).isEmpty) = true := by rw [hc]; rfl
      have e3 : ((bytesOf t).head? == some 48) = decide (c = 48) := by rw [hc]; simp only [List.head?_cons]; by_cases h : c = 48 <;> simp [h]
      rw [e1, e2, e3, len_size]
      by_cases h3 : c = 48
      · by_cases h4 : 1 < t.size
        · refine Ev.congr (f := fun _ => some false) (fun k => ?_) (by simpa [h3, h4] using Ev.now false)
          simp only [number_Can.f, ht, Option.bind_some]
          rw [if_neg hne, if_neg (by omega), if_pos (by omega), if_pos (by rw [hbt, h3]), if_pos (by omega)]
        · by_cases h5 : (bytesOf s).head? = some 45
          · refine Ev.congr (f := fun _ => some false) (fun k => ?_) (by simpa [h3, h5] using Ev.now false)
            simp only [number_Can.f, ht, Option.bind_some]
            rw [if_neg hne, if_neg (by omega), if_pos (by omega), if_pos (by rw [hbt, h3]), if_neg (by omega), if_neg (fun h => heq.1 h h5)]
          · have e5 : ((bytesOf s).head? == some 45) = false := by simpa using h5
            refine Ev.congr (fun k => ?_) (by simpa [h3, h4, e5] using hj)
            simp only [number_Can.f, ht, Option.bind_some]
            rw [if_neg hne, if_neg (by omega), if_pos (by omega), if_pos (by rw [hbt, h3]), if_neg (by omega), if_pos (heq.2 h5)]
      · refine Ev.congr (fun k => ?_) (by simpa [h3] using hj)
        simp only [number_Can.f, ht, Option.bind_some]
        rw [if_neg hne, if_neg (by omega), if_pos (by omega), if_neg (by rw [hbt]; exact h3)]

theorem can_ref_l0 (s : ByteArray) (hs : s.size ≤ 9223372036854775807) : Ev (fun k => rostrumref09_Can.l0 k s 0) ((bytesOf s).all digitB) := by
  have := all_loop (fun k i => rostrumref09_Can.l0 k s i) digitB s hs (fun k i hi => by
    simp only [rostrumref09_Can.l0]
    rw [if_pos (by omega), if_pos (by omega), up_ hi hs]
    by_cases h1 : bt s i < 48
    · rw [if_pos h1, if_neg (by simp [digitB]; omega)]
    · by_cases h2 : bt s i > 57
      · rw [if_neg h1, if_pos h2, if_neg (by simp [digitB]; omega)]
      · rw [if_neg h1, if_neg h2, if_pos (by simp [digitB]; omega)]) (fun k => by
    simp only [rostrumref09_Can.l0]; rw [if_neg (by omega)]) _ 0 rfl (Nat.zero_le _)
  simpa using this


theorem can_ref (s : ByteArray) (hs : s.size ≤ 9223372036854775807) : Ev (fun k => rostrumref09_Can.f k s) (canL (bytesOf s)) := by
  have hj2 : ∀ (t : ByteArray) b, t.size ≤ 9223372036854775807 → Ev (fun k => rostrumref09_Can.j2 k t b) (!b && (bytesOf t).all digitB) := by
    intro t b ht; cases b with
    | true => exact Ev.step (f := fun _ => some false) (fun k => by simp only [rostrumref09_Can.j2, if_true]) (Ev.now _)
    | false => exact Ev.step (f := fun k => rostrumref09_Can.l0 k t 0) (fun k => by simp only [rostrumref09_Can.j2]; rw [if_neg (by simp)]) (by simpa using can_ref_l0 t ht)
  have hj1 : ∀ (t : ByteArray), t.size ≤ 9223372036854775807 → Ev (fun k => rostrumref09_Can.j1 k t) (!(bytesOf t).isEmpty && decide ((bytesOf t).length ≤ 200) && !((bytesOf t).head? == some 48 && decide (1 < (bytesOf t).length)) && (bytesOf t).all digitB) := by
    intro t ht
    by_cases h1 : bytesOf t = []
    · have h0 : t.size = 0 := by rw [← len_size, h1]; rfl
      refine Ev.step (f := fun k => rostrumref09_Can.j2 k t true) (fun k => ?_) (by rw [h1]; simpa using hj2 t true ht)
      simp only [rostrumref09_Can.j1]; rw [if_pos (by omega)]
    · have hl : 0 < t.size := by rw [← len_size]; exact List.length_pos_iff.2 h1
      obtain ⟨c, l, hc, hbt⟩ := bt_head t hl
      have e1 : (!(bytesOf t).isEmpty) = true := by rw [hc]; rfl
      have e3 : ((bytesOf t).head? == some 48) = decide (c = 48) := by rw [hc]; simp only [List.head?_cons]; by_cases h : c = 48 <;> simp [h]
      rw [e1, e3, len_size]
      by_cases h2 : 200 < t.size
      · refine Ev.step (f := fun k => rostrumref09_Can.j2 k t true) (fun k => ?_) (by rw [show decide (t.size ≤ 200) = false from decide_eq_false (by omega)]; simpa using hj2 t true ht)
        simp only [rostrumref09_Can.j1]; rw [if_neg (by omega), if_pos (by omega)]
      · by_cases h3 : c = 48
        · refine Ev.step (f := fun k => rostrumref09_Can.j2 k t (decide ((t.size : Int) > 1))) (fun k => ?_) ?_
          · simp only [rostrumref09_Can.j1]; rw [if_neg (by omega), if_neg (by omega), if_pos (by omega), if_pos (by rw [hbt, h3])]
          · have := hj2 t (decide ((t.size : Int) > 1)) ht
            rw [show decide ((t.size : Int) > 1) = decide (1 < t.size) from by rw [Bool.eq_iff_iff, decide_eq_true_eq, decide_eq_true_eq]; omega] at this ⊢
            simpa [h3, show t.size ≤ 200 by omega] using this
        · refine Ev.step (f := fun k => rostrumref09_Can.j2 k t false) (fun k => ?_) (by simpa [h3, show t.size ≤ 200 by omega] using hj2 t false ht)
          simp only [rostrumref09_Can.j1]; rw [if_neg (by omega), if_neg (by omega), if_pos (by omega), if_neg (by rw [hbt]; exact h3)]
  by_cases h1 : bytesOf s = []
  · have h0 : s.size = 0 := by rw [← len_size, h1]; rfl
    refine Ev.congr (f := fun k => rostrumref09_Can.j0 k s false) (fun k => by simp only [rostrumref09_Can.f]; rw [if_neg (by omega)]) ?_
    refine Ev.step (f := fun k => rostrumref09_Can.j1 k s) (fun k => by simp only [rostrumref09_Can.j0]; rw [if_neg (by simp)]) ?_
    have := hj1 s hs
    rw [h1] at this ⊢
    exact this
  · have hl : 0 < s.size := by rw [← len_size]; exact List.length_pos_iff.2 h1
    obtain ⟨c, l, hc, hbt⟩ := bt_head s hl
    refine Ev.congr (f := fun k => rostrumref09_Can.j0 k s (bt s 0 == 45)) (fun k => by simp only [rostrumref09_Can.f]; rw [if_pos (by omega), if_pos (by omega)]) ?_
    by_cases h2 : c = 45
    · have hx : bytesOf (s.extract 1 s.size) = l := by rw [bytes_cut, hc]; rfl
      have hcan : canL (bytesOf s) = (!l.isEmpty && decide (l.length ≤ 200) && !(l.head? == some 48) && l.all digitB) := by
        rw [hc, h2]; simp [canL]
      rw [hcan]
      by_cases h3 : l = [48]
      · refine Ev.step (f := fun _ => some false) (fun k => ?_) (by rw [h3]; exact Ev.now _)
        simp only [rostrumref09_Can.j0]
        rw [if_pos (by rw [hbt, h2]; rfl), if_pos (by omega), if_pos ((toList_iff _ [48]).2 (by rw [hx, h3]; rfl))]
      · refine Ev.step (f := fun k => rostrumref09_Can.j1 k (s.extract 1 s.size)) (fun k => ?_) ?_
        · simp only [rostrumref09_Can.j0]
          rw [if_pos (by rw [hbt, h2]; rfl), if_pos (by omega), if_neg (fun h => h3 (by have := (toList_iff _ [48]).1 h; rw [hx] at this; exact this))]
        · have := hj1 (s.extract 1 s.size) (by simp; omega)
          rw [hx] at this
          have e : (l.head? == some 48 && decide (1 < l.length)) = (l.head? == some 48) := by
            cases l with
            | nil => rfl
            | cons a m =>
              by_cases ha : a = 48
              · subst ha
                cases m with
                | nil => exact absurd rfl h3
                | cons b m => simp
              · simp [ha]
          rw [e] at this
          exact this
    · refine Ev.step (f := fun k => rostrumref09_Can.j1 k s) (fun k => by simp only [rostrumref09_Can.j0]; rw [if_neg (by rw [hbt]; simpa using h2)]) ?_
      have := hj1 s hs
      have e : canL (bytesOf s) = (!(bytesOf s).isEmpty && decide ((bytesOf s).length ≤ 200) && !((bytesOf s).head? == some 48 && decide (1 < (bytesOf s).length)) && (bytesOf s).all digitB) := by
        have : ((bytesOf s).head? == some 45) = false := by rw [hc]; simpa using h2
        simp only [canL, this, Bool.or_false, Bool.false_eq_true, if_false]
      rw [e]
      exact this


/-! ### over bytes -/
theorem bytes_map (s : ByteArray) : bytesOf s = s.data.toList.map fun b => (b.toNat : Int) := rfl
theorem all_digit (l : List UInt8) : (l.map fun b => (b.toNat : Int)).all digitB = l.all N.digU := by
  induction l with
  | nil => rfl
  | cons c l ih =>
    rw [List.map_cons, List.all_cons, List.all_cons, ih]
    congr 1
    simp only [digitB, N.digU]
    rw [Bool.eq_iff_iff]; simp only [Bool.and_eq_true, decide_eq_true_eq]; omega
theorem head_byte (l : List UInt8) (c : UInt8) : ((l.map fun b => (b.toNat : Int)).head? == some (c.toNat : Int)) = (l.head? == some c) := by
  cases l with
  | nil => rfl
  | cons a l =>
    simp only [List.map_cons, List.head?_cons]
    rw [Bool.eq_iff_iff, beq_iff_eq, beq_iff_eq, Option.some.injEq, Option.some.injEq]
    exact ⟨byte_inj, fun h => by rw [h]⟩
theorem canL_eq (l : List UInt8) : canL (l.map fun b => (b.toNat : Int)) = N.canU l := by
  have h45 := head_byte l 45
  have e45 : ((45 : UInt8).toNat : Int) = 45 := rfl
  rw [e45] at h45
  simp only [canL, N.canU, h45]
  have hd : (if (l.head? == some 45) = true then (l.map fun b => (b.toNat : Int)).tail else l.map fun b => (b.toNat : Int)) = (N.digits l).map fun b => (b.toNat : Int) := by
    unfold N.digits
    by_cases h : l.head? = some 45
    · rw [if_pos (by simpa using h), if_pos h, List.map_tail]
    · rw [if_neg (by simpa using h), if_neg h]
  rw [hd, all_digit]
  have h48 := head_byte (N.digits l) 48
  have e48 : ((48 : UInt8).toNat : Int) = 48 := rfl
  rw [e48] at h48
  rw [h48, List.length_map, List.isEmpty_map]
theorem can_prog_u (s : ByteArray) (hs : s.size ≤ 9223372036854775807) : Ev (fun k => number_Can.f k s) (N.canU s.data.toList) := by
  have := can_prog s hs
  rwa [bytes_map, canL_eq] at this
theorem can_ref_u (s : ByteArray) (hs : s.size ≤ 9223372036854775807) : Ev (fun k => rostrumref09_Can.f k s) (N.canU s.data.toList) := by
  have := can_ref s hs
  rwa [bytes_map, canL_eq] at this
theorem can_calls (s : ByteArray) (hs : s.size ≤ 9223372036854775807) (w : World) : Calls Tryd.prog 12 #[.string s] w fun e w' => e = .returned (.bool (N.canU s.data.toList)) ∧ Drawn0 w w' := by
  obtain ⟨k, hk⟩ := Ev.rounds (can_prog_u s hs)
  exact number_Can.calls k s _ w hk
end Go.Proofs.YtlnneellihkdkaaDoor.D
namespace Go.Proofs.YtlnneellihkdkaaDoor.D
open Go.RowKit Go.Proofs.YtlnneellihkdkaaDoorW.PrintWords Go.Proofs.YtlnneellihkdkaaDoorW.PrintLast Go.Proofs.YtlnneellihkdkaaDoorW.PrintMore
set_option linter.unusedVariables false
set_option linter.unusedSimpArgs false

theorem gRange : Tryd.prog.globalNamed "strconv.ErrRange" = some 1 := by kernel_rfl
theorem gPow : Tryd.prog.globalNamed "internal/strconv.uint64pow10" = some 2 := by kernel_rfl
/-- The library's variables that the road reads, as the program's start lays them. -/
def LaidW (W : World) : Prop := (∃ tp p, W.var? Tryd.prog "strconv.ErrRange" = some #[.iface tp p]) ∧ Lib.TabIs Tryd.prog W "internal/strconv.uint64pow10" .u64 Lib.pow10Tab
theorem LaidW.below {W W' : World} (h : LaidW W) {B : Nat} (hb : Below B W W') (hB : W.heap.size ≤ B) : LaidW W' := by
  obtain ⟨⟨tp, p, h1⟩, h2⟩ := h
  exact ⟨⟨tp, p, Go.Joins.var_stays gRange h1 hb hB⟩, Go.Joins.var_stays gPow h2 hb hB⟩
theorem LaidW.drewN {W : World} (h : LaidW W) (n : Nat) : LaidW (W.drewN n) := h
theorem LaidW.drawn {W W' : World} (h : LaidW W) (hd : Drawn0 W W') : LaidW W' := by
  obtain ⟨n, rfl⟩ := hd
  exact h.drewN n
theorem LaidW.alloc {W : World} (h : LaidW W) (o : Obj) : LaidW (W.alloc o) := h.below (below_alloc (Below.refl _ _) o) (Nat.le_refl _)

def baU (l : List UInt8) : ByteArray := ⟨l.toArray⟩
theorem baU_self (s : ByteArray) : baU s.data.toList = s := by simp [baU]
theorem baU_list (l : List UInt8) : (baU l).data.toList = l := by simp [baU]
theorem baU_size (l : List UInt8) : (baU l).size = l.length := by simp [baU, ByteArray.size]

/-- The small one of a text. -/
def smallU (l : List UInt8) : Int × Bool := if N.canU l = true then (if N.inInt (N.valU l) = true then (N.valU l, true) else (0, false)) else (0, false)

set_option maxHeartbeats 1000000 in
theorem small_calls (s : ByteArray) (hs : s.size ≤ 140737488355328) (w : World) (hL : LaidW w) :
    Calls Tryd.prog 9 #[.string s] w fun e w' => e = .returned (.tuple #[.int .i64 (smallU s.data.toList).1, .bool (smallU s.data.toList).2]) ∧ Below w.heap.size w w' := by
  have HL := Aside0.mk hL
  clear hL
  cases hc : N.canU s.data.toList with
  | false =>
    have HR := Aside0.mk (show smallU s.data.toList = (0, false) by unfold smallU; rw [if_neg (by simp [hc])])
    have HC := Aside0.mk hc
    clear hc
    go_enter Tryd.func9, Tryd.ntmps9
    go_wp2_with (go_at_call 12; refine (can_calls s (by omega) _).mono ?_; rintro e w' ⟨rfl, ⟨nd, rfl⟩⟩; rw [HC.out])
    go_ret2
    exact ⟨by rw [HR.out]; rfl, pw_below_drewN (Below.refl _ _) _⟩
  | true =>
    have ha := N.atoi_can hc
    have HC := Aside0.mk hc
    cases hi : N.inInt (N.valU s.data.toList) with
    | true =>
      rw [hi, if_pos rfl] at ha
      have HA := Aside0.mk ha
      have HR := Aside0.mk (show smallU s.data.toList = (N.valU s.data.toList, true) by unfold smallU; rw [if_pos hc, if_pos hi])
      clear hc ha hi
      go_enter Tryd.func9, Tryd.ntmps9
      go_wp2_with (first | (go_at_call 12; refine (can_calls s (by omega) _).mono ?_; rintro e w' ⟨rfl, ⟨nd, rfl⟩⟩; rw [HC.out]) | (go_at_call 29; refine (Tryd.strconv_Atoi_ok s (by omega) _ HA.out _).mono ?_; rintro e w2 ⟨rfl, hw2⟩; have HB2 := Aside0.mk (show Below w.heap.size w w2 from by rcases hw2 with rfl | ⟨t, rfl⟩; exact pw_below_drewN (Below.refl _ _) _; exact below_step (pw_below_drewN (Below.refl _ _) _) (Lib.bytesWorld_below _ _ _)); clear hw2))
      go_ret2
      exact ⟨by rw [HR.out]; rfl, HB2.out⟩
    | false =>
      rw [hi, if_neg (by simp)] at ha
      have HA := Aside0.mk ha
      have HR := Aside0.mk (show smallU s.data.toList = (0, false) by unfold smallU; rw [if_pos hc, if_neg (by simp [hi])])
      clear hc ha hi
      obtain ⟨tp, p, hv⟩ := HL.out.1
      have HV := Aside0.mk hv
      clear hv
      go_enter Tryd.func9, Tryd.ntmps9
      go_wp2_with (first | (go_at_call 12; refine (can_calls s (by omega) _).mono ?_; rintro e w' ⟨rfl, ⟨nd, rfl⟩⟩; rw [HC.out]) | (go_at_call 29; refine (Tryd.strconv_Atoi_range_var s (by omega) HA.out tp p (w.drewN nd) HV.out).mono ?_; rintro e w2 ⟨N0, rfl, hN, hN2, hb2⟩; have HB2 := Aside0.mk (below_step (pw_below_drewN (Below.refl w.heap.size w) nd) hb2); clear hN hN2 hb2))
      go_ret2
      exact ⟨by rw [HR.out]; rfl, HB2.out⟩

set_option maxHeartbeats 1000000 in
theorem of_calls (n : Int) (h0 : -9223372036854775808 ≤ n) (h1 : n ≤ 9223372036854775807) (w : World) (hL : LaidW w) :
    Calls Tryd.prog 11 #[.int .i64 n] w fun e w' => e = .returned (.string (baU (Lib.itoa n))) ∧ Below w.heap.size w w' := by
  have HL := Aside0.mk hL.2
  clear hL
  go_enter Tryd.func11, Tryd.ntmps11
  go_wp2_with (go_at_call 30; refine (Tryd.strconv_Itoa n h0 h1 _ HL.out).mono ?_; rintro e w2 ⟨rfl, k, os, rfl⟩)
  go_ret
  exact ⟨rfl, Lib.below_grow _ _ (Nat.le_refl _) _ _⟩
end Go.Proofs.YtlnneellihkdkaaDoor.D
