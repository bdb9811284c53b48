
/- Which texts are names, by the program and by the reference; which are numbers, by the reference. -/
import Derived.Test.YtjphkokfleoinaaDoorDx2
import Derived.Test.YtjphkokfleoinaaDoorDx4
import Derived.Test.YtjphkokfleoinaaDoorDx5
import Derived.Test.YtjphkokfleoinaaDoorHNames
namespace Go.Proofs.YtjphkokfleoinaaDoor.D
open Go.RowKit Go.Proofs.YtjphkokfleoinaaDoorW.PrintWords Go.Proofs.YtjphkokfleoinaaDoorW.PrintLast Go.Proofs.YtjphkokfleoinaaDoorW.PrintMore
set_option linter.unusedVariables false

theorem index_contains (l : List UInt8) (c : UInt8) : (0 ≤ Lib.indexByte l c) ↔ c ∈ l := by
  induction l with
  | nil => simp [Lib.indexByte]
  | cons b l ih =>
    have hg := Lib.indexByte_ge l c
    unfold Lib.indexByte
    by_cases h : b = c
    · simp [h]
    · have h' : ¬ c = b := fun e => h e.symm
      by_cases h2 : Lib.indexByte l c = -1
      · have : ¬ c ∈ l := fun hm => by have := ih.2 hm; omega
        simp [h, h', h2, this]
      · have : c ∈ l := ih.1 (by omega)
        simp [h, h', h2, this]
        omega

theorem index_list (l : List UInt8) (c : Int) (h0 : 0 ≤ c) (h1 : c ≤ 255) : decide (0 ≤ Lib.indexByte l c.toNat.toUInt8) = (l.map fun b => (b.toNat : Int)).contains c := by
  have hc : (c.toNat.toUInt8.toNat : Int) = c := by
    rw [Nat.toUInt8, UInt8.toNat_ofNat']
    omega
  rw [Bool.eq_iff_iff, decide_eq_true_eq, index_contains, List.contains_iff_mem, List.mem_map]
  constructor
  · intro h; exact ⟨_, h, hc⟩
  · rintro ⟨b, hb, e⟩
    have : b = c.toNat.toUInt8 := byte_inj (by rw [e, hc])
    rw [← this]; exact hb

theorem digit_prog (c : Int) : datum_digit.f c = some (digitB c) := by
  simp only [datum_digit.f, digitB]
  by_cases h : c ≥ 48
  · rw [if_pos h]; simp [h]
  · rw [if_neg h]; simp; omega
theorem digit_ref (c : Int) : rostrumref10_digit.f c = some (digitB c) := by
  simp only [rostrumref10_digit.f, digitB]
  by_cases h : c ≥ 48
  · rw [if_pos h]; simp [h]
  · rw [if_neg h]; simp; omega

theorem inner_prog (c : Int) (h0 : 0 ≤ c) (h1 : c ≤ 255) : datum_inner.f c = some (partB c) := by
  have hs : strings_IndexByte.f (⟨#[33, 36, 37, 38, 42, 47, 58, 60, 61, 62, 63, 94, 95, 126, 43, 45, 46, 64]⟩ : ByteArray) c = some (Lib.indexByte [33, 36, 37, 38, 42, 47, 58, 60, 61, 62, 63, 94, 95, 126, 43, 45, 46, 64] c.toNat.toUInt8) := rfl
  have hd := index_list [33, 36, 37, 38, 42, 47, 58, 60, 61, 62, 63, 94, 95, 126, 43, 45, 46, 64] c h0 h1
  have hl : ([33, 36, 37, 38, 42, 47, 58, 60, 61, 62, 63, 94, 95, 126, 43, 45, 46, 64] : List UInt8).map (fun b => (b.toNat : Int)) = signs := rfl
  rw [hl] at hd
  simp only [datum_inner.f, digit_prog, Option.bind_some, hs, ge_iff_le, hd, partB, letterB]
  cases digitB c with
  | true => simp
  | false =>
    simp only [Bool.false_eq_true, if_false, Bool.false_or]
    by_cases a : 97 ≤ c <;> by_cases b : c ≤ 122 <;> by_cases d : 65 ≤ c <;> by_cases e : c ≤ 90 <;> simp [a, b, d, e]

theorem plus_minus (c : Int) (h0 : 0 ≤ c) (h1 : c ≤ 255) : ∃ n, strings_IndexByte.f (⟨#[43, 45]⟩ : ByteArray) c = some n ∧ decide (n ≥ 0) = (c == 43 || c == 45) := by
  refine ⟨_, rfl, ?_⟩
  have hd := index_list [43, 45] c h0 h1
  refine Eq.trans (b := decide (0 ≤ Lib.indexByte [43, 45] c.toNat.toUInt8)) rfl (hd.trans ?_)
  rw [show ([43, 45] : List UInt8).map (fun b => (b.toNat : Int)) = [43, 45] from rfl]
  by_cases a : c = 43 <;> by_cases b : c = 45 <;> simp [a, b]

theorem getD_bt (s : ByteArray) (i : Nat) : (bytesOf s).getD i 0 = bt s i := by
  rw [← rd_bytesOf, rd, Int.toNat_natCast]

theorem name_l0 (s : ByteArray) (hs : s.size ≤ 9223372036854775807) : Ev (fun k => datum_name.l0 k s (s.size : Int) 0) ((bytesOf s).all partB) := by
  have := all_loop (fun k i => datum_name.l0 k s (s.size : Int) i) partB s hs (fun k i hi => by
    simp only [datum_name.l0]
    have hr := bt_range s (i : Int)
    rw [if_pos (by omega), if_pos (by omega), if_pos (by omega), up_ hi hs, inner_prog _ hr.1 hr.2, Option.bind_some]) (fun k => by
    simp only [datum_name.l0]; rw [if_neg (by omega)]) _ 0 rfl (Nat.zero_le _)
  simpa using this
theorem name_ref_l0 (s : ByteArray) (hs : s.size ≤ 9223372036854775807) : Ev (fun k => rostrumref10_IsName.l0 k s 0) ((bytesOf s).all partB) := by
  have := all_loop (fun k i => rostrumref10_IsName.l0 k s i) partB s hs (fun k i hi => by
    simp only [rostrumref10_IsName.l0]
    rw [if_pos (by omega), if_pos (by omega), up_ hi hs, show rostrumref10_part.f (bt s i) = some (partB (bt s i)) from rfl, Option.bind_some]) (fun k => by
    simp only [rostrumref10_IsName.l0]; rw [if_neg (by omega)]) _ 0 rfl (Nat.zero_le _)
  simpa using this
theorem can_ref_l0 (s : ByteArray) (hs : s.size ≤ 9223372036854775807) : Ev (fun k => rostrumref09_Can.l0 k s 0) ((bytesOf s).all digitB) := by
  have := all_loop (fun k i => rostrumref09_Can.l0 k s i) digitB s hs (fun k i hi => by
    simp only [rostrumref09_Can.l0]
    rw [if_pos (by omega), if_pos (by omega), up_ hi hs]
    by_cases h1 : bt s i < 48
    · rw [if_pos h1, if_neg (by simp [digitB]; omega)]
    · by_cases h2 : bt s i > 57
      · rw [if_neg h1, if_pos h2, if_neg (by simp [digitB]; omega)]
      · rw [if_neg h1, if_neg h2, if_pos (by simp [digitB]; omega)]) (fun k => by
    simp only [rostrumref09_Can.l0]; rw [if_neg (by omega)]) _ 0 rfl (Nat.zero_le _)
  simpa using this

/-- A name's head: what both ask of it ahead of the loop. -/
def headL (l : List Int) : Bool := !l.isEmpty && decide (l.length ≤ 64) && !(l == [46]) && !digitB (l.getD 0 0) && !((l.getD 0 0 == 43 || l.getD 0 0 == 45) && decide (1 < l.length) && digitB (l.getD 1 0))
theorem nameL_eq (l : List Int) : nameL l = (headL l && l.all partB) := rfl

theorem name_prog (s : ByteArray) (hs : s.size ≤ 9223372036854775807) : Ev (fun k => datum_name.f k s) (nameL (bytesOf s)) := by
  rw [nameL_eq]
  have hbad : Ev (fun k => datum_name.j0 k s true) false := Ev.step (f := fun _ => some false) (fun k => by simp only [datum_name.j0, if_true]) (Ev.now _)
  by_cases h1 : bytesOf s = []
  · refine Ev.congr (f := fun k => datum_name.j0 k s true) (fun k => ?_) (by rw [show headL (bytesOf s) = false from by rw [h1]; rfl]; exact hbad)
    simp only [datum_name.f]
    rw [if_pos ((toList_iff s []).2 (by simpa using h1))]
  · have hne : ¬ s.toList = [] := fun h => h1 (by have := (toList_iff s []).1 h; simpa using this)
    have hl : 0 < s.size := by rw [← len_size]; exact List.length_pos_iff.2 h1
    have e1 : (!(bytesOf s).isEmpty) = true := by simpa using h1
    by_cases h2 : 64 < s.size
    · refine Ev.congr (f := fun k => datum_name.j0 k s true) (fun k => ?_) (by rw [show headL (bytesOf s) = false from by simp only [headL, len_size, show decide (s.size ≤ 64) = false from decide_eq_false (by omega)]; simp]; exact hbad)
      simp only [datum_name.f]
      rw [if_neg hne, if_pos (by omega)]
    · by_cases h3 : bytesOf s = [46]
      · refine Ev.congr (f := fun k => datum_name.j0 k s true) (fun k => ?_) (by rw [show headL (bytesOf s) = false from by rw [h3]; rfl]; exact hbad)
        simp only [datum_name.f]
        rw [if_neg hne, if_neg (by omega), if_pos ((toList_iff s [46]).2 (by simpa using h3))]
      · have hne3 : ¬ s.toList = [46] := fun h => h3 (by have := (toList_iff s [46]).1 h; simpa using this)
        have e3 : (!(bytesOf s == [46])) = true := by simpa using h3
        have hH : headL (bytesOf s) = (!digitB (bt s 0) && !((bt s 0 == 43 || bt s 0 == 45) && decide (1 < s.size) && digitB (bt s 1))) := by
          simp only [headL, e1, e3, Bool.true_and, getD_bt, len_size, show decide (s.size ≤ 64) = true from decide_eq_true (by omega)]; rfl
        rw [hH]
        refine Ev.congr (f := fun k => datum_name.j0 k s (digitB (bt s 0))) (fun k => ?_) ?_
        · simp only [datum_name.f]
          rw [if_neg hne, if_neg (by omega), if_neg hne3, if_pos (by omega), digit_prog, Option.bind_some]
        · cases hd : digitB (bt s 0) with
          | true => simpa using hbad
          | false =>
            have hr := bt_range s 0
            obtain ⟨n, hn, hpm⟩ := plus_minus (bt s 0) hr.1 hr.2
            have hj1 : ∀ b, Ev (fun k => datum_name.j1 k s b) (!b && (bytesOf s).all partB) := by
              intro b; cases b with
              | true => exact Ev.step (f := fun _ => some false) (fun k => by simp only [datum_name.j1, if_true]) (Ev.now _)
              | false => exact Ev.step (f := fun k => datum_name.l0 k s (s.size : Int) 0) (fun k => by simp only [datum_name.j1]; rw [if_neg (by simp)]) (by simpa using name_l0 s hs)
            by_cases hp : n ≥ 0
            · rw [← hpm, decide_eq_true hp]
              by_cases hs1 : 1 < s.size
              · refine Ev.step (f := fun k => datum_name.j1 k s (digitB (bt s 1))) (fun k => ?_) (by simpa [hs1] using hj1 (digitB (bt s 1)))
                simp only [datum_name.j0]
                rw [if_neg (by simp), if_pos (by omega), hn, Option.bind_some, if_pos hp, if_pos (by omega), if_pos (by omega), digit_prog, Option.bind_some]
              · refine Ev.step (f := fun k => datum_name.j1 k s false) (fun k => ?_) (by simpa [hs1] using hj1 false)
                simp only [datum_name.j0]
                rw [if_neg (by simp), if_pos (by omega), hn, Option.bind_some, if_pos hp, if_neg (by omega)]
            · rw [← hpm, decide_eq_false hp]
              refine Ev.step (f := fun k => datum_name.j1 k s false) (fun k => ?_) (by simpa using hj1 false)
              simp only [datum_name.j0]
              rw [if_neg (by simp), if_pos (by omega), hn, Option.bind_some, if_neg hp]

theorem name_ref (s : ByteArray) (hs : s.size ≤ 9223372036854775807) : Ev (fun k => rostrumref10_IsName.f k s) (nameL (bytesOf s)) := by
  rw [nameL_eq]
  have hj : ∀ b, Ev (fun k => rostrumref10_IsName.j0 k s b) (!b && (bytesOf s).all partB) := by
    intro b; cases b with
    | true => exact Ev.step (f := fun _ => some false) (fun k => by simp only [rostrumref10_IsName.j0, if_true]) (Ev.now _)
    | false => exact Ev.step (f := fun k => rostrumref10_IsName.l0 k s 0) (fun k => by simp only [rostrumref10_IsName.j0]; rw [if_neg (by simp)]) (by simpa using name_ref_l0 s hs)
  have hbad : Ev (fun k => rostrumref10_IsName.j0 k s true) false := by simpa using hj true
  by_cases h1 : bytesOf s = []
  · refine Ev.congr (f := fun k => rostrumref10_IsName.j0 k s true) (fun k => ?_) (by rw [show headL (bytesOf s) = false from by rw [h1]; rfl]; exact hbad)
    simp only [rostrumref10_IsName.f]
    rw [if_pos ((toList_iff s []).2 (by simpa using h1))]
  · have hne : ¬ s.toList = [] := fun h => h1 (by have := (toList_iff s []).1 h; simpa using this)
    have hl : 0 < s.size := by rw [← len_size]; exact List.length_pos_iff.2 h1
    have e1 : (!(bytesOf s).isEmpty) = true := by simpa using h1
    by_cases h2 : 64 < s.size
    · refine Ev.congr (f := fun k => rostrumref10_IsName.j0 k s true) (fun k => ?_) (by rw [show headL (bytesOf s) = false from by simp only [headL, len_size, show decide (s.size ≤ 64) = false from decide_eq_false (by omega)]; simp]; exact hbad)
      simp only [rostrumref10_IsName.f]
      rw [if_neg hne, if_pos (by omega)]
    · by_cases h3 : bytesOf s = [46]
      · refine Ev.congr (f := fun k => rostrumref10_IsName.j0 k s true) (fun k => ?_) (by rw [show headL (bytesOf s) = false from by rw [h3]; rfl]; exact hbad)
        simp only [rostrumref10_IsName.f]
        rw [if_neg hne, if_neg (by omega), if_pos ((toList_iff s [46]).2 (by simpa using h3))]
      · have hne3 : ¬ s.toList = [46] := fun h => h3 (by have := (toList_iff s [46]).1 h; simpa using this)
        have e3 : (!(bytesOf s == [46])) = true := by simpa using h3
        have hH : headL (bytesOf s) = (!digitB (bt s 0) && !((bt s 0 == 43 || bt s 0 == 45) && decide (1 < s.size) && digitB (bt s 1))) := by
          simp only [headL, e1, e3, Bool.true_and, getD_bt, len_size, show decide (s.size ≤ 64) = true from decide_eq_true (by omega)]; rfl
        rw [hH]
        have hf : ∀ k, rostrumref10_IsName.f k s = if digitB (bt s 0) = true then rostrumref10_IsName.j0 k s true else rostrumref10_IsName.j0 k s ((bt s 0 == 43 || bt s 0 == 45) && decide (1 < s.size) && digitB (bt s 1)) := by
          intro k
          simp only [rostrumref10_IsName.f]
          rw [if_neg hne, if_neg (by omega), if_neg hne3, if_pos (by omega), digit_ref, Option.bind_some]
          cases hd : digitB (bt s 0) with
          | true => rfl
          | false =>
            simp only [Bool.false_eq_true, if_false]
            by_cases a : bt s 0 = 43
            · rw [if_pos a]
              by_cases hs1 : 1 < s.size
              · rw [if_pos (by omega), if_pos (by omega), digit_ref, Option.bind_some]; simp [a, hs1]
              · rw [if_neg (by omega)]; simp [a, hs1]
            · rw [if_neg a]
              by_cases b : bt s 0 = 45
              · rw [if_pos b]
                by_cases hs1 : 1 < s.size
                · rw [if_pos (by omega), if_pos (by omega), digit_ref, Option.bind_some]; simp [b, hs1]
                · rw [if_neg (by omega)]; simp [b, hs1]
              · rw [if_neg b, show ((bt s 0 == 43 || bt s 0 == 45) && decide (1 < s.size) && digitB (bt s 1)) = false from by simp [a, b]]
        refine Ev.congr (fun k => hf k) ?_
        cases hd : digitB (bt s 0) with
        | true => simpa using hbad
        | false =>
          have := hj ((bt s 0 == 43 || bt s 0 == 45) && decide (1 < s.size) && digitB (bt s 1))
          simpa using this

theorem can_ref (s : ByteArray) (hs : s.size ≤ 9223372036854775807) : Ev (fun k => rostrumref09_Can.f k s) (canL (bytesOf s)) := by
  have hj2 : ∀ (t : ByteArray) b, t.size ≤ 9223372036854775807 → Ev (fun k => rostrumref09_Can.j2 k t b) (!b && (bytesOf t).all digitB) := by
    intro t b ht; cases b with
    | true => exact Ev.step (f := fun _ => some false) (fun k => by simp only [rostrumref09_Can.j2, if_true]) (Ev.now _)
    | false => exact Ev.step (f := fun k => rostrumref09_Can.l0 k t 0) (fun k => by simp only [rostrumref09_Can.j2]; rw [if_neg (by simp)]) (by simpa using can_ref_l0 t ht)
  have hj1 : ∀ (t : ByteArray), t.size ≤ 9223372036854775807 → Ev (fun k => rostrumref09_Can.j1 k t) (!(bytesOf t).isEmpty && decide ((bytesOf t).length ≤ 200) && !((bytesOf t).head? == some 48 && decide (1 < (bytesOf t).length)) && (bytesOf t).all digitB) := by
    intro t ht
    by_cases h1 : bytesOf t = []
    · have h0 : t.size = 0 := by rw [← len_size, h1]; rfl
      refine Ev.step (f := fun k => rostrumref09_Can.j2 k t true) (fun k => ?_) (by rw [h1]; simpa using hj2 t true ht)
      simp only [rostrumref09_Can.j1]; rw [if_pos (by omega)]
    · have hl : 0 < t.size := by rw [← len_size]; exact List.length_pos_iff.2 h1
      obtain ⟨c, l, hc, hbt⟩ := bt_head t hl
      have e1 : (!(bytesOf t).isEmpty) = true := by rw [hc]; rfl
      have e3 : ((bytesOf t).head? == some 48) = decide (c = 48) := by rw [hc]; simp only [List.head?_cons]; by_cases h : c = 48 <;> simp [h]
      rw [e1, e3, len_size]
      by_cases h2 : 200 < t.size
      · refine Ev.step (f := fun k => rostrumref09_Can.j2 k t true) (fun k => ?_) (by rw [show decide (t.size ≤ 200) = false from decide_eq_false (by omega)]; simpa using hj2 t true ht)
        simp only [rostrumref09_Can.j1]; rw [if_neg (by omega), if_pos (by omega)]
      · by_cases h3 : c = 48
        · refine Ev.step (f := fun k => rostrumref09_Can.j2 k t (decide ((t.size : Int) > 1))) (fun k => ?_) ?_
          · simp only [rostrumref09_Can.j1]; rw [if_neg (by omega), if_neg (by omega), if_pos (by omega), if_pos (by rw [hbt, h3])]
          · have := hj2 t (decide ((t.size : Int) > 1)) ht
            rw [show decide ((t.size : Int) > 1) = decide (1 < t.size) from by rw [Bool.eq_iff_iff, decide_eq_true_eq, decide_eq_true_eq]; omega] at this ⊢
            simpa [h3, show t.size ≤ 200 by omega] using this
        · refine Ev.step (f := fun k => rostrumref09_Can.j2 k t false) (fun k => ?_) (by simpa [h3, show t.size ≤ 200 by omega] using hj2 t false ht)
          simp only [rostrumref09_Can.j1]; rw [if_neg (by omega), if_neg (by omega), if_pos (by omega), if_neg (by rw [hbt]; exact h3)]
  by_cases h1 : bytesOf s = []
  · have h0 : s.size = 0 := by rw [← len_size, h1]; rfl
    refine Ev.congr (f := fun k => rostrumref09_Can.j0 k s false) (fun k => by simp only [rostrumref09_Can.f]; rw [if_neg (by omega)]) ?_
    refine Ev.step (f := fun k => rostrumref09_Can.j1 k s) (fun k => by simp only [rostrumref09_Can.j0]; rw [if_neg (by simp)]) ?_
    have := hj1 s hs
    rw [h1] at this ⊢
    exact this
  · have hl : 0 < s.size := by rw [← len_size]; exact List.length_pos_iff.2 h1
    obtain ⟨c, l, hc, hbt⟩ := bt_head s hl
    refine Ev.congr (f := fun k => rostrumref09_Can.j0 k s (bt s 0 == 45)) (fun k => by simp only [rostrumref09_Can.f]; rw [if_pos (by omega), if_pos (by omega)]) ?_
    by_cases h2 : c = 45
    · have hx : bytesOf (s.extract 1 s.size) = l := by rw [bytes_cut, hc]; rfl
      have hcan : canL (bytesOf s) = (!l.isEmpty && decide (l.length ≤ 200) && !(l.head? == some 48) && l.all digitB) := by
        rw [hc, h2]; simp [canL]
      rw [hcan]
      by_cases h3 : l = [48]
      · refine Ev.step (f := fun _ => some false) (fun k => ?_) (by rw [h3]; exact Ev.now _)
        simp only [rostrumref09_Can.j0]
        rw [if_pos (by rw [hbt, h2]; rfl), if_pos (by omega), if_pos ((toList_iff _ [48]).2 (by rw [hx, h3]; rfl))]
      · refine Ev.step (f := fun k => rostrumref09_Can.j1 k (s.extract 1 s.size)) (fun k => ?_) ?_
        · simp only [rostrumref09_Can.j0]
          rw [if_pos (by rw [hbt, h2]; rfl), if_pos (by omega), if_neg (fun h => h3 (by have := (toList_iff _ [48]).1 h; rw [hx] at this; exact this))]
        · have := hj1 (s.extract 1 s.size) (by simp; omega)
          rw [hx] at this
          have e : (l.head? == some 48 && decide (1 < l.length)) = (l.head? == some 48) := by
            cases l with
            | nil => rfl
            | cons a m =>
              by_cases ha : a = 48
              · subst ha
                cases m with
                | nil => exact absurd rfl h3
                | cons b m => simp
              · simp [ha]
          rw [e] at this
          exact this
    · refine Ev.step (f := fun k => rostrumref09_Can.j1 k s) (fun k => by simp only [rostrumref09_Can.j0]; rw [if_neg (by rw [hbt]; simpa using h2)]) ?_
      have := hj1 s hs
      have e : canL (bytesOf s) = (!(bytesOf s).isEmpty && decide ((bytesOf s).length ≤ 200) && !((bytesOf s).head? == some 48 && decide (1 < (bytesOf s).length)) && (bytesOf s).all digitB) := by
        have : ((bytesOf s).head? == some 45) = false := by rw [hc]; simpa using h2
        simp only [canL, this, Bool.or_false, Bool.false_eq_true, if_false]
      rw [e]
      exact this

end Go.Proofs.YtjphkokfleoinaaDoor.D
