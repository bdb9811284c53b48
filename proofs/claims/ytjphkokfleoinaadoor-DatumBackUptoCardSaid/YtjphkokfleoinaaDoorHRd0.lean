
/- The reader's parts in plain words: blanks, pieces. -/
import Derived.Test.YtjphkokfleoinaaDoorDx8
import Derived.Test.YtjphkokfleoinaaDoorDx9
import Derived.Test.YtjphkokfleoinaaDoorDx10
import Derived.Test.YtjphkokfleoinaaDoorHNames2
namespace Go.Proofs.YtjphkokfleoinaaDoor.D
open Go.RowKit Go.Proofs.YtjphkokfleoinaaDoorW.PrintWords Go.Proofs.YtjphkokfleoinaaDoorW.PrintLast Go.Proofs.YtjphkokfleoinaaDoorW.PrintMore
set_option linter.unusedVariables false
set_option linter.unusedSimpArgs false

def blankU (c : UInt8) : Bool := c == 32 || c == 9 || c == 10 || c == 13
/-- What is left behind blanks and comments (true: within a comment). -/
def skF : Bool → List UInt8 → List UInt8
  | _, [] => []
  | false, c :: r => if blankU c then skF false r else if c == 59 then skF true r else c :: r
  | true, c :: r => if c == 10 then skF false r else skF true r
def sk (r : List UInt8) : List UInt8 := skF false r
theorem skF_le : ∀ (r : List UInt8) (b : Bool), (skF b r).length ≤ r.length
  | [], b => by cases b <;> simp [skF]
  | c :: r, false => by
    have h1 := skF_le r false
    have h2 := skF_le r true
    simp only [skF]
    repeat' split
    all_goals simp only [List.length_cons]
    all_goals omega
  | c :: r, true => by
    have h1 := skF_le r false
    have h2 := skF_le r true
    simp only [skF]
    repeat' split
    all_goals simp only [List.length_cons]
    all_goals omega
theorem sk_le (r : List UInt8) : (sk r).length ≤ r.length := skF_le r false
theorem sk_cons {c : UInt8} (h1 : blankU c = false) (h2 : (c == 59) = false) (r : List UInt8) : sk (c :: r) = c :: r := by
  simp [sk, skF, h1, h2]
theorem skF_suffix : ∀ (r : List UInt8) (b : Bool), skF b r = r.drop (r.length - (skF b r).length)
  | [], b => by cases b <;> simp [skF]
  | c :: r, false => by
    have l1 := skF_le r false
    have l2 := skF_le r true
    have h1 := skF_suffix r false
    have h2 := skF_suffix r true
    simp only [skF]
    split
    · rw [List.length_cons, show r.length + 1 - (skF false r).length = (r.length - (skF false r).length) + 1 by omega, List.drop_succ_cons]
      exact h1
    · split
      · rw [List.length_cons, show r.length + 1 - (skF true r).length = (r.length - (skF true r).length) + 1 by omega, List.drop_succ_cons]
        exact h2
      · simp
  | c :: r, true => by
    have l1 := skF_le r false
    have l2 := skF_le r true
    have h1 := skF_suffix r false
    have h2 := skF_suffix r true
    simp only [skF]
    split
    · rw [List.length_cons, show r.length + 1 - (skF false r).length = (r.length - (skF false r).length) + 1 by omega, List.drop_succ_cons]
      exact h1
    · rw [List.length_cons, show r.length + 1 - (skF true r).length = (r.length - (skF true r).length) + 1 by omega, List.drop_succ_cons]
      exact h2
/-- A comment ends at the next line, or never. -/
theorem skF_index : ∀ (r : List UInt8), (Lib.indexByte r 10 = -1 ∧ skF true r = []) ∨ ∃ t : Nat, Lib.indexByte r 10 = (t : Int) ∧ t < r.length ∧ skF true r = skF false (r.drop t)
  | [] => .inl ⟨rfl, by simp [skF]⟩
  | c :: r => by
    have ih := skF_index r
    by_cases hc : c = 10
    · subst hc
      refine .inr ⟨0, by simp [Lib.indexByte], by simp, ?_⟩
      simp [skF, blankU]
    · have hcb : (c == 10) = false := by simpa using hc
      rcases ih with ⟨h1, h2⟩ | ⟨t, h1, h2, h3⟩
      · refine .inl ⟨?_, ?_⟩
        · simp [Lib.indexByte, hcb, h1]
        · simp [skF, hcb, h2]
      · refine .inr ⟨t + 1, ?_, by simp; omega, ?_⟩
        · simp only [Lib.indexByte, hcb, h1]
          have e1 : ((t : Int) == -1) = false := beq_eq_false_iff_ne.mpr (by omega)
          simp only [e1, Bool.false_eq_true, if_false]
          omega
        · simp only [skF, hcb, List.drop_succ_cons]
          simpa using h3
theorem bt_drop (s : ByteArray) (i : Nat) (h : i < s.size) : ∃ c r, s.data.toList.drop i = c :: r ∧ bt s i = (c.toNat : Int) ∧ s.data.toList.drop (i + 1) = r := by
  have hl : i < s.data.toList.length := by simpa using h
  refine ⟨s.data.toList[i], s.data.toList.drop (i + 1), List.drop_eq_getElem_cons hl, ?_, rfl⟩
  have h2 : (i : Int).toNat < s.size := by simpa using h
  rw [bt, dif_pos h2]
  rfl
theorem u8_eq (c : UInt8) (n : Nat) (hn : n < 256) : ((c.toNat : Int) = (n : Int)) ↔ c = n.toUInt8 := by
  constructor
  · intro h
    apply UInt8.toNat_inj.1
    have : c.toNat = n := by omega
    rw [this]
    simp [Nat.toUInt8, UInt8.toNat_ofNat']
    omega
  · rintro rfl
    simp [Nat.toUInt8, UInt8.toNat_ofNat']
    omega
theorem wrap_add (i t : Nat) (h : i + t ≤ 9223372036854775807) : wrap64 ((i : Int) + (t : Int)) = ((i + t : Nat) : Int) := by unfold wrap64; omega
set_option maxHeartbeats 2000000 in
theorem skip_l0 (s : ByteArray) (hs : s.size ≤ 9223372036854775807) (d : Nat) : ∀ i : Nat, s.size - i ≤ d → i ≤ s.size →
    Ev (fun k => datum_reader_skip.l0 k s (i : Int)) (s, ((s.size - (sk (s.data.toList.drop i)).length : Nat) : Int)) := by
  have hlen : ∀ i, (s.data.toList.drop i).length = s.size - i := fun i => by simp
  induction d with
  | zero =>
    intro i hd hi
    obtain rfl : i = s.size := by omega
    refine Ev.step (f := fun _ => some (s, (s.size : Int))) (fun k => ?_) ?_
    · simp only [datum_reader_skip.l0]; rw [if_neg (by omega)]
    · rw [List.drop_eq_nil_of_le (by simp)]
      simpa [sk, skF] using Ev.now (s, (s.size : Int))
  | succ d ih =>
    intro i hd hi
    by_cases hlt : i < s.size
    · obtain ⟨c, r, hdr, hbt, hnx⟩ := bt_drop s i hlt
      have hup : wrap64 ((i : Int) + 1) = ((i + 1 : Nat) : Int) := up_ hlt hs
      have hih := ih (i + 1) (by omega) (by omega)
      rw [hnx] at hih
      rw [hdr]
      by_cases hb : blankU c = true
      · have hsk : sk (c :: r) = sk r := by simp [sk, skF, hb]
        rw [hsk]
        refine Ev.step (f := fun k => datum_reader_skip.j1 k (bt s i) true s i) (fun k => ?_) (Ev.step (f := fun k => datum_reader_skip.l0 k s ((i + 1 : Nat) : Int)) (fun k => by simp only [datum_reader_skip.j1, if_true]; rw [hup]) hih)
        simp only [datum_reader_skip.l0]
        rw [if_pos (by omega), if_pos (by omega), hbt]
        simp only [blankU, Bool.or_eq_true, beq_iff_eq] at hb
        rcases hb with ((h | h) | h) | h <;> subst h <;> simp
      · have hb' : blankU c = false := by simpa using hb
        have hn : ¬ ((c.toNat : Int) = 32) ∧ ¬ ((c.toNat : Int) = 9) ∧ ¬ ((c.toNat : Int) = 10) ∧ ¬ ((c.toNat : Int) = 13) := by
          simp only [blankU, Bool.or_eq_false_iff, beq_eq_false_iff_ne] at hb'
          refine ⟨?_, ?_, ?_, ?_⟩
          · intro h; exact hb'.1.1.1 ((u8_eq c 32 (by decide)).1 h)
          · intro h; exact hb'.1.1.2 ((u8_eq c 9 (by decide)).1 h)
          · intro h; exact hb'.1.2 ((u8_eq c 10 (by decide)).1 h)
          · intro h; exact hb'.2 ((u8_eq c 13 (by decide)).1 h)
        have hstep : ∀ k, datum_reader_skip.l0 (k + 1) s (i : Int) = datum_reader_skip.j1 k (c.toNat : Int) false s i := fun k => by
          simp only [datum_reader_skip.l0]
          rw [if_pos (by omega), if_pos (by omega), hbt, if_neg hn.1, if_neg hn.2.1, if_neg hn.2.2.1]
          congr 1
          simpa using hn.2.2.2
        refine Ev.step (f := fun k => datum_reader_skip.j1 k (c.toNat : Int) false s i) hstep ?_
        by_cases h59 : c = 59
        · subst h59
          have hst : ∀ k, datum_reader_skip.j1 (k + 1) ((59 : UInt8).toNat : Int) false s i = (strings_IndexByte.f (s.extract (i : Int).toNat s.size) 10).bind fun t139 => if t139 < 0 then some (s, (s.size : Int)) else datum_reader_skip.l0 k s (wrap64 ((i : Int) + t139)) := fun k => by
            simp only [datum_reader_skip.j1]
            rw [if_neg (by simp), if_pos (by decide), if_pos (by omega), if_pos (by omega)]
          have hix : strings_IndexByte.f (s.extract (i : Int).toNat s.size) 10 = some (Lib.indexByte (59 :: r) 10) := by
            simp only [strings_IndexByte.f, Int.toNat_natCast]
            rw [Lib.extract_to_end, hdr]
            rfl
          have hsk : sk (59 :: r) = skF true (59 :: r) := by simp [sk, skF, blankU]
          rw [hsk]
          have hl := hlen i
          rw [hdr] at hl
          rcases skF_index (59 :: r) with ⟨h1, h2⟩ | ⟨t, h1, h2, h3⟩
          · rw [h1] at hix
            refine Ev.step (f := fun _ => some (s, (s.size : Int))) (fun k => ?_) ?_
            · rw [hst, hix, Option.bind_some, if_pos (by decide)]
            · rw [h2]
              exact Ev.now _
          · rw [h1] at hix
            have ht0 : t ≠ 0 := by
              intro h0
              subst h0
              have := (Lib.indexByte_some h1).1
              simp at this
            clear h1
            have hit : i + t ≤ s.size := by omega
            have hit2 : s.size - (i + t) ≤ d := by omega
            have hw : wrap64 ((i : Int) + (t : Int)) = ((i + t : Nat) : Int) := wrap_add i t (by omega)
            have hq := ih (i + t) hit2 hit
            rw [← List.drop_drop, hdr] at hq
            refine Ev.step (f := fun k => datum_reader_skip.l0 k s ((i + t : Nat) : Int)) (fun k => ?_) ?_
            · rw [hst, hix, Option.bind_some, if_neg (Int.not_lt.mpr (Int.natCast_nonneg t)), hw]
            · rw [h3]
              exact hq
        · have hne : (c == 59) = false := by simpa using h59
          rw [sk_cons hb' hne]
          have hl := hlen i
          rw [hdr] at hl
          refine Ev.step (f := fun _ => some (s, (i : Int))) (fun k => ?_) ?_
          · simp only [datum_reader_skip.j1]
            rw [if_neg (by simp), if_neg (show ¬ ((c.toNat : Int) = 59) from fun h => h59 ((u8_eq c 59 (by decide)).1 h))]
          · rw [show s.size - (c :: r).length = i by omega]
            exact Ev.now _
    · obtain rfl : i = s.size := by omega
      refine Ev.step (f := fun _ => some (s, (s.size : Int))) (fun k => ?_) ?_
      · simp only [datum_reader_skip.l0]; rw [if_neg (by omega)]
      · rw [List.drop_eq_nil_of_le (by simp)]
        simpa [sk, skF] using Ev.now (s, (s.size : Int))
end Go.Proofs.YtjphkokfleoinaaDoor.D
