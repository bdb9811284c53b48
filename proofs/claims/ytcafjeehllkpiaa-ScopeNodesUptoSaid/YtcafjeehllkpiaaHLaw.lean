/- ScopeNodes: the plain law. -/
import Derived.Test.YtcafjeehllkpiaaDx11
namespace Go.Proofs.Ytcafjeehllkpiaa.D
open Go.RowKit Go.Proofs.YtcafjeehllkpiaaW.PrintWords Go.Proofs.YtcafjeehllkpiaaW.PrintLast Go.Proofs.YtcafjeehllkpiaaW.PrintMore
set_option linter.unusedVariables false
set_option linter.unusedSimpArgs false

theorem up_ {i n : Nat} (h : i < n) (hn : n ≤ 9223372036854775807) : wrap64 ((i : Int) + 1) = ((i + 1 : Nat) : Int) := by
  unfold wrap64; omega
theorem ba_list (l : List UInt8) : (baOf l).toList = l := by rw [Lib.toList_data]; simp [baOf]
theorem ba_self (t : ByteArray) : baOf t.data.toList = t := by simp [baOf]
theorem rd_ba (M : List (List UInt8)) (i : Nat) (h : i < M.length) : rdOf ByteArray.empty (M.map baOf) (i : Int) = baOf M[i] := by
  simp [rdOf, h]
theorem insL_len (l : List (List UInt8)) (s : List UInt8) : (insL l s).length ≤ l.length + 1 := by
  induction l with
  | nil => simp [insL]
  | cons a l ih => simp only [insL]; split; (· simp); split <;> simp; exact ih
theorem foldl_len (m l : List (List UInt8)) : (m.foldl insL l).length ≤ l.length + m.length := by
  induction m generalizing l with
  | nil => simp
  | cons a m ih => have := ih (insL l a); have := insL_len l a; simp only [List.foldl_cons, List.length_cons]; omega
theorem setL_len (l : List (List UInt8)) : (setL l).length ≤ l.length := by simpa [setL] using foldl_len l []

/-! ### with -/
theorem with_true (M : List (List UInt8)) (s : List UInt8) (hM : M.length ≤ 9223372036854775807) (d : Nat) : ∀ i : Nat, M.length - i = d → i ≤ M.length → (∀ y ∈ M.drop i, y ≠ s) → ∀ out : List (List UInt8), out.length + (M.length - i) < 8796093022208 →
    Ev (fun k => rostrumref12_with.l0 k (M.map baOf) (baOf s) (out.map baOf) true (M.map baOf) (M.length : Int) i) ((out ++ M.drop i).map baOf) := by
  induction d with
  | zero =>
    intro i hd hi hne out ho
    rw [List.drop_eq_nil_of_le (by omega), List.append_nil]
    refine Ev.step (f := fun _ => some (out.map baOf)) (fun k => ?_) (Ev.now _)
    simp only [rostrumref12_with.l0]
    rw [if_neg (by omega)]; simp
  | succ d ih =>
    intro i hd hi hne out ho
    have hlt : i < M.length := by omega
    have hx : M[i] ≠ s := hne _ (by rw [List.drop_eq_getElem_cons hlt]; exact List.mem_cons_self)
    have := ih (i + 1) (by omega) (by omega) (fun y hy => hne y (by rw [List.drop_eq_getElem_cons hlt]; exact List.mem_cons_of_mem _ hy)) (out ++ [M[i]]) (by simp; omega)
    rw [List.append_assoc, List.singleton_append, ← List.drop_eq_getElem_cons hlt] at this
    refine Ev.step (fun k => ?_) this
    simp only [rostrumref12_with.l0]
    rw [if_pos (by omega), if_pos (by omega), if_pos (by simp; omega), rd_ba M i hlt, if_neg (by rw [ba_list, ba_list]; exact hx), if_pos trivial, if_pos (by simp; omega), up_ hlt hM, List.map_append]
    rfl

theorem with_false (M : List (List UInt8)) (s : List UInt8) (hr : Rising M) (hM : M.length < 8796093022000) (d : Nat) : ∀ i : Nat, M.length - i = d → i ≤ M.length →
    Ev (fun k => rostrumref12_with.l0 k (M.map baOf) (baOf s) ((M.take i).map baOf) false (M.map baOf) (M.length : Int) i) ((M.take i ++ insL (M.drop i) s).map baOf) := by
  induction d with
  | zero =>
    intro i hd hi
    rw [List.drop_eq_nil_of_le (by omega)]
    refine Ev.step (f := fun _ => some ((M.take i ++ insL [] s).map baOf)) (fun k => ?_) (Ev.now _)
    simp only [rostrumref12_with.l0]
    rw [if_neg (by omega), if_neg (by simp), if_pos (by simp; omega)]
    simp [insL]
  | succ d ih =>
    intro i hd hi
    have hlt : i < M.length := by omega
    have hdr := List.drop_eq_getElem_cons hlt
    have hrd : Rising (M.drop i) := List.Pairwise.sublist (List.drop_sublist _ _) hr
    rw [hdr] at hrd
    obtain ⟨hr1, hr2⟩ := List.pairwise_cons.1 hrd
    by_cases e : M[i] = s
    · have h2 : M.take i ++ insL (M.drop i) s = M := by
        rw [hdr]; simp only [insL]; rw [if_pos e, ← hdr, List.take_append_drop]
      rw [h2]
      refine Ev.step (f := fun _ => some (M.map baOf)) (fun k => ?_) (Ev.now _)
      simp only [rostrumref12_with.l0]
      rw [if_pos (by omega), if_pos (by omega), if_pos (by simp; omega), rd_ba M i hlt, if_pos (by rw [ba_list, ba_list]; exact e)]
    · by_cases hs : s < M[i]
      · have h2 : M.take i ++ insL (M.drop i) s = (M.take i ++ [s] ++ [M[i]]) ++ M.drop (i + 1) := by
          rw [hdr]; simp only [insL]; rw [if_neg e, if_pos hs]; simp
        rw [h2]
        refine Ev.step (fun k => ?_) (with_true M s (by omega) d (i + 1) (by omega) (by omega) (fun y hy hys => List.lt_irrefl s (by have := List.lt_trans hs (hr1 y hy); rw [hys] at this; exact this)) (M.take i ++ [s] ++ [M[i]]) (by simp; omega))
        simp only [rostrumref12_with.l0]
        rw [if_pos (by omega), if_pos (by omega), if_pos (by simp; omega), rd_ba M i hlt, if_neg (by rw [ba_list, ba_list]; exact e), if_neg (by simp), if_pos (by rw [Go.Proofs.bytesLess_eq, ba_list, ba_list]; exact decide_eq_true hs), if_pos (by simp; omega), Option.bind_some, if_pos (by simp; omega), up_ hlt (by omega)]
        simp
      · have h2 : M.take i ++ insL (M.drop i) s = M.take (i + 1) ++ insL (M.drop (i + 1)) s := by
          rw [hdr]; simp only [insL]; rw [if_neg e, if_neg hs, List.take_succ_eq_append_getElem hlt, List.append_assoc, List.singleton_append]
        rw [h2]
        refine Ev.step (fun k => ?_) (ih (i + 1) (by omega) (by omega))
        simp only [rostrumref12_with.l0]
        rw [if_pos (by omega), if_pos (by omega), if_pos (by simp; omega), rd_ba M i hlt, if_neg (by rw [ba_list, ba_list]; exact e), if_neg (by simp), if_neg (by rw [Go.Proofs.bytesLess_eq, ba_list, ba_list]; simpa using hs), if_pos (by simp; omega), up_ hlt (by omega), List.take_succ_eq_append_getElem hlt, List.map_append]
        rfl

theorem with_ev (M : List (List UInt8)) (s : List UInt8) (hr : Rising M) (hM : M.length < 8796093022000) : Ev (fun k => rostrumref12_with.f k (M.map baOf) (baOf s)) ((insL M s).map baOf) := by
  have := with_false M s hr hM _ 0 rfl (Nat.zero_le _)
  simpa [rostrumref12_with.f] using this

/-! ### the names of nodes -/
def namesL (l : List S34) : List (List UInt8) := eachL freeStep l []
theorem names_acc (n : Nat) : ∀ l : List S34, SizeOf.sizeOf l ≤ n → ∀ acc, eachL freeStep l acc = acc ++ namesL l := by
  induction n with
  | zero => intro l h; cases l <;> simp at h
  | succ n ih =>
    intro l hn acc
    cases l with
    | nil => simp [namesL, eachL]
    | cons x l =>
      simp only [List.cons.sizeOf_spec] at hn
      have hk : SizeOf.sizeOf x.f5 ≤ n := by cases x; simp only [S34.mk.sizeOf_spec] at *; omega
      simp only [namesL, eachL, eachN_eq]
      rw [ih l (by omega), ih x.f5 hk, ih l (by omega) (eachL freeStep x.f5 (freeStep [] x)), ih x.f5 hk (freeStep [] x)]
      simp only [freeStep]
      split <;> simp
theorem names_cons (x : S34) (l : List S34) : namesL (x :: l) = (if globB x then [x.f3.data.toList] else []) ++ namesL x.f5 ++ namesL l := by
  show eachL freeStep (x :: l) [] = _
  simp only [eachL, eachN_eq]
  rw [names_acc _ l (Nat.le_refl _), names_acc _ x.f5 (Nat.le_refl _)]
  simp [freeStep]
theorem names_append (l m : List S34) : namesL (l ++ m) = namesL l ++ namesL m := by
  induction l with
  | nil => simp [namesL, eachL]
  | cons x l ih => rw [List.cons_append, names_cons, ih, names_cons]; simp
theorem names_len (l : List S34) : (namesL l).length ≤ cntL l := by
  have := eachL_m freeStep List.length freeStep_len _ l (Nat.le_refl _) []
  simpa [namesL] using this
theorem setL_map_app (a b : List (List UInt8)) : setL (a ++ b) = b.foldl insL (setL a) := by simp [setL, List.foldl_append]

theorem free_l1 (x9 : List S34) (x10 x11 : Int) (N : List (List UInt8)) (hN : N.length ≤ 10000000) (R : List ByteArray) (d : Nat) : ∀ i : Nat, N.length - i = d → i ≤ N.length → ∀ A : List (List UInt8), Rising A → A.length + (N.length - i) ≤ 100000000 →
    Ev (fun k => rostrumref12_Free.l0 k (((N.drop i).foldl insL A).map baOf) x9 x10 (wrap64 (x11 + 1))) R →
    Ev (fun k => rostrumref12_Free.l1 k (A.map baOf) x9 x10 x11 (N.map baOf) (N.length : Int) i) R := by
  induction d with
  | zero =>
    intro i hd hi A hr ha h
    rw [List.drop_eq_nil_of_le (by omega)] at h
    refine Ev.step (fun k => ?_) h
    simp only [rostrumref12_Free.l1]
    rw [if_neg (by omega)]; rfl
  | succ d ih =>
    intro i hd hi A hr ha h
    have hlt : i < N.length := by omega
    refine Ev.step (f := fun k => (rostrumref12_with.f k (A.map baOf) (baOf N[i])).bind fun t => rostrumref12_Free.l1 k t x9 x10 x11 (N.map baOf) (N.length : Int) ((i + 1 : Nat) : Int)) (fun k => ?_) ?_
    · simp only [rostrumref12_Free.l1]
      rw [if_pos (by omega), if_pos (by omega), if_pos (by simp; omega), rd_ba N i hlt, up_ hlt (by omega)]
    · refine Ev.bind (with_ev A N[i] hr (by omega)) ?_
      refine ih (i + 1) (by omega) (by omega) (insL A N[i]) (rising_insL _ _ hr) (by have := insL_len A N[i]; omega) ?_
      rw [List.drop_eq_getElem_cons hlt, List.foldl_cons] at h
      exact h

def FreeAt (l : List S34) : Prop := cntL l ≤ 1048576 → Ev (fun k => rostrumref12_Free.f k l) ((setL (namesL l)).map baOf)
theorem cntL_drop (l : List S34) (i : Nat) (h : i < l.length) : cntL (l.drop i) = cntN (rd_T34 l i) + cntL (l.drop (i + 1)) := by
  rw [List.drop_eq_getElem_cons h]
  simp only [cntL, ← rd_cast h]
theorem cnt_ge (l : List S34) : l.length ≤ cntL l := by
  induction l with
  | nil => simp [cntL]
  | cons a l ih => have := cntN_eq a; simp only [cntL, List.length_cons]; omega

theorem free_l0 (l : List S34) (hc : cntL l ≤ 1048576) (hf : ∀ i : Nat, i < l.length → FreeAt (rd_T34 l i).f5) (d : Nat) : ∀ i : Nat, l.length - i = d → i ≤ l.length →
    Ev (fun k => rostrumref12_Free.l0 k ((setL (namesL (l.take i))).map baOf) l (l.length : Int) i) ((setL (namesL l)).map baOf) := by
  induction d with
  | zero =>
    intro i hd hi
    rw [List.take_of_length_le (by omega)]
    refine Ev.step (f := fun _ => some ((setL (namesL l)).map baOf)) (fun k => ?_) (Ev.now _)
    simp only [rostrumref12_Free.l0]
    rw [if_neg (by omega)]
  | succ d ih =>
    intro i hd hi
    have hlt : i < l.length := by omega
    have hcl := cnt_ge l
    have hct := cntL_take l i hlt
    rw [cntN_eq] at hct
    have hnk := names_len (rd_T34 l i).f5
    have hsk := setL_len (namesL (rd_T34 l i).f5)
    have hnt := names_len (l.take i)
    have hst := setL_len (namesL (l.take i))
    have hrk := hf i hlt (by omega)
    have hnext := ih (i + 1) (by omega) (by omega)
    generalize hx : rd_T34 l (i : Int) = x at hct hnk hsk hrk
    -- what the round adds
    have key : ∀ N : List (List UInt8), (∀ y, y ∈ N ↔ y ∈ (if globB x then [x.f3.data.toList] else []) ++ namesL x.f5) → N.foldl insL (setL (namesL (l.take i))) = setL (namesL (l.take (i + 1))) := by
      intro N hN
      rw [← setL_map_app]
      refine rising_ext (rising_setL _) (rising_setL _) (fun y => ?_)
      rw [mem_setL, mem_setL, List.take_succ_eq_append_getElem hlt, names_append, names_cons, ← rd_cast hlt, hx]
      simp only [List.mem_append, hN y]
      have : namesL [] = [] := rfl
      rw [this]; simp
    have tail : ∀ N : List (List UInt8), N.length ≤ 10000000 → (∀ y, y ∈ N ↔ y ∈ (if globB x then [x.f3.data.toList] else []) ++ namesL x.f5) →
        Ev (fun k => rostrumref12_Free.j2 k ((setL (namesL (l.take i))).map baOf) (N.map baOf) l (l.length : Int) i) ((setL (namesL l)).map baOf) := by
      intro N hl hN
      refine Ev.step (f := fun k => rostrumref12_Free.l1 k ((setL (namesL (l.take i))).map baOf) l (l.length : Int) i (N.map baOf) (N.length : Int) ((0 : Nat) : Int)) (fun k => by simp only [rostrumref12_Free.j2]; simp) ?_
      refine free_l1 l _ _ N hl _ _ 0 rfl (Nat.zero_le _) _ (rising_setL _) (by omega) ?_
      rw [List.drop_zero, key N hN, up_ hlt (by omega)]
      exact hnext
    have j1 : ∀ b : Bool, b = globB x → Ev (fun k => rostrumref12_Free.j1 k ((setL (namesL (l.take i))).map baOf) ((setL (namesL x.f5)).map baOf) l (l.length : Int) i b x.f0 x.f1 x.f2 x.f3 x.f4.f0 x.f4.f1 x.f4.f2 x.f4.f3 x.f5) ((setL (namesL l)).map baOf) := by
      intro b hb
      cases b with
      | true =>
        refine Ev.step (fun k => ?_) (tail (setL (namesL x.f5) ++ [x.f3.data.toList]) (by simp; omega) (fun y => by rw [← hb]; simp [mem_setL, or_comm]))
        simp only [rostrumref12_Free.j1]
        rw [if_pos trivial, if_pos (by simp; omega)]
        simp [ba_self]
      | false =>
        refine Ev.step (fun k => ?_) (tail (setL (namesL x.f5)) (by omega) (fun y => by rw [← hb]; simp [mem_setL]))
        simp only [rostrumref12_Free.j1]
        rw [if_neg (by simp)]
    have cond : Ev (fun k => if x.f0 = 3 then rostrumref12_Free.j1 k ((setL (namesL (l.take i))).map baOf) ((setL (namesL x.f5)).map baOf) l (l.length : Int) i true x.f0 x.f1 x.f2 x.f3 x.f4.f0 x.f4.f1 x.f4.f2 x.f4.f3 x.f5
        else if x.f0 = 5 then rostrumref12_Free.j1 k ((setL (namesL (l.take i))).map baOf) ((setL (namesL x.f5)).map baOf) l (l.length : Int) i true x.f0 x.f1 x.f2 x.f3 x.f4.f0 x.f4.f1 x.f4.f2 x.f4.f3 x.f5
        else rostrumref12_Free.j1 k ((setL (namesL (l.take i))).map baOf) ((setL (namesL x.f5)).map baOf) l (l.length : Int) i (x.f0 == 10) x.f0 x.f1 x.f2 x.f3 x.f4.f0 x.f4.f1 x.f4.f2 x.f4.f3 x.f5) ((setL (namesL l)).map baOf) := by
      by_cases h3 : x.f0 = 3
      · exact Ev.congr (fun k => if_pos h3) (j1 true (by simp [globB, h3]))
      · refine Ev.congr (fun k => if_neg h3) ?_
        by_cases h5 : x.f0 = 5
        · exact Ev.congr (fun k => if_pos h5) (j1 true (by simp [globB, h5]))
        · refine Ev.congr (fun k => if_neg h5) (j1 _ ?_)
          have e3 : (x.f0 == 3) = false := by simpa using h3
          have e5 : (x.f0 == 5) = false := by simpa using h5
          simp [globB, e3, e5]
    refine Ev.step (f := fun k => (rostrumref12_Free.f k x.f5).bind fun t => if x.f0 = 3 then rostrumref12_Free.j1 k ((setL (namesL (l.take i))).map baOf) t l (l.length : Int) i true x.f0 x.f1 x.f2 x.f3 x.f4.f0 x.f4.f1 x.f4.f2 x.f4.f3 x.f5
        else if x.f0 = 5 then rostrumref12_Free.j1 k ((setL (namesL (l.take i))).map baOf) t l (l.length : Int) i true x.f0 x.f1 x.f2 x.f3 x.f4.f0 x.f4.f1 x.f4.f2 x.f4.f3 x.f5
        else rostrumref12_Free.j1 k ((setL (namesL (l.take i))).map baOf) t l (l.length : Int) i (x.f0 == 10) x.f0 x.f1 x.f2 x.f3 x.f4.f0 x.f4.f1 x.f4.f2 x.f4.f3 x.f5) (fun k => ?_) (Ev.bind hrk cond)
    simp only [rostrumref12_Free.l0]
    rw [if_pos (by omega), if_pos (by omega), if_pos (by omega), hx]

theorem free_ref (n : Nat) : ∀ l : List S34, SizeOf.sizeOf l ≤ n → FreeAt l := by
  induction n with
  | zero => intro l h; cases l <;> simp at h
  | succ n ih =>
    intro l hn hc
    refine Ev.step (f := fun k => rostrumref12_Free.l0 k ((setL (namesL (l.take 0))).map baOf) l (l.length : Int) ((0 : Nat) : Int)) (fun k => by simp only [rostrumref12_Free.f]; rfl) ?_
    refine free_l0 l hc (fun i h => ih _ ?_) _ 0 rfl (Nat.zero_le _)
    have := List.sizeOf_lt_of_mem (rd_mem h)
    generalize rd_T34 l i = x at this ⊢
    cases x
    simp only [S34.mk.sizeOf_spec] at this ⊢
    omega

/-! ### sizes -/
theorem size_prog (n : Nat) : ∀ l : List S34, SizeOf.sizeOf l ≤ n → ∀ v : Nat, v + cntL l ≤ 9223372036854775807 → eachL sizeStep l (v : Int) = ((v + cntL l : Nat) : Int) := by
  induction n with
  | zero => intro l h; cases l <;> simp at h
  | succ n ih =>
    intro l hn v hv
    cases l with
    | nil => simp [eachL, cntL]
    | cons x l =>
      simp only [List.cons.sizeOf_spec] at hn
      simp only [cntL, cntN_eq] at hv
      have hk : SizeOf.sizeOf x.f5 ≤ n := by cases x; simp only [S34.mk.sizeOf_spec] at *; omega
      simp only [eachL, eachN_eq, sizeStep, cntL, cntN_eq]
      rw [show wrap64 ((v : Int) + 1) = ((v + 1 : Nat) : Int) from by unfold wrap64; omega, ih x.f5 hk (v + 1) (by omega), ih l (by omega) _ (by omega)]
      omega

def SizeAt (l : List S34) : Prop := cntL l ≤ 1048576 → Ev (fun k => rostrumref12_Size.f k l) ((cntL l : Nat) : Int)
theorem size_l0 (l : List S34) (hc : cntL l ≤ 1048576) (hf : ∀ i : Nat, i < l.length → SizeAt (rd_T34 l i).f5) (d : Nat) : ∀ i : Nat, l.length - i = d → i ≤ l.length → ∀ v : Nat, v + cntL (l.drop i) = cntL l + (l.length - i) →
    Ev (fun k => rostrumref12_Size.l0 k (v : Int) l (l.length : Int) i) ((cntL l : Nat) : Int) := by
  induction d with
  | zero =>
    intro i hd hi v hv
    rw [List.drop_eq_nil_of_le (by omega)] at hv
    have e : v = cntL l := by simp only [cntL] at hv; omega
    subst e
    refine Ev.step (f := fun _ => some ((cntL l : Nat) : Int)) (fun k => ?_) (Ev.now _)
    simp only [rostrumref12_Size.l0]
    rw [if_neg (by omega)]
  | succ d ih =>
    intro i hd hi v hv
    have hlt : i < l.length := by omega
    have hcl := cnt_ge l
    have hct := cntL_take l i hlt
    rw [cntN_eq] at hct
    rw [cntL_drop l i hlt, cntN_eq] at hv
    refine Ev.step (f := fun k => (rostrumref12_Size.f k (rd_T34 l i).f5).bind fun t => rostrumref12_Size.l0 k (wrap64 (v + t)) l (l.length : Int) ((i + 1 : Nat) : Int)) (fun k => ?_) ?_
    · simp only [rostrumref12_Size.l0]
      rw [if_pos (by omega), if_pos (by omega), if_pos (by omega), up_ hlt (by omega)]
    · refine Ev.bind (hf i hlt (by omega)) ?_
      rw [show wrap64 ((v : Int) + ((cntL (rd_T34 l i).f5 : Nat) : Int)) = ((v + cntL (rd_T34 l i).f5 : Nat) : Int) from by unfold wrap64; omega]
      exact ih (i + 1) (by omega) (by omega) _ (by omega)
theorem size_ref (n : Nat) : ∀ l : List S34, SizeOf.sizeOf l ≤ n → SizeAt l := by
  induction n with
  | zero => intro l h; cases l <;> simp at h
  | succ n ih =>
    intro l hn hc
    refine Ev.step (f := fun k => rostrumref12_Size.l0 k (l.length : Int) l (l.length : Int) ((0 : Nat) : Int)) (fun k => by simp only [rostrumref12_Size.f]; rfl) ?_
    refine size_l0 l hc (fun i h => ih _ ?_) _ 0 rfl (Nat.zero_le _) l.length (by simp; omega)
    have := List.sizeOf_lt_of_mem (rd_mem h)
    generalize rd_T34 l i = x at this ⊢
    cases x
    simp only [S34.mk.sizeOf_spec] at this ⊢
    omega

/-! ### two lists that are one -/
theorem equal_l0 (l : List ByteArray) (hl : l.length ≤ 9223372036854775807) (d : Nat) : ∀ i : Nat, l.length - i = d → i ≤ l.length → Ev (fun k => slices_Equal_string_string.l0 k l l (l.length : Int) i) true := by
  induction d with
  | zero =>
    intro i hd hi
    refine Ev.step (f := fun _ => some true) (fun k => ?_) (Ev.now _)
    simp only [slices_Equal_string_string.l0]
    rw [if_neg (by omega)]
  | succ d ih =>
    intro i hd hi
    refine Ev.step (fun k => ?_) (ih (i + 1) (by omega) (by omega))
    simp only [slices_Equal_string_string.l0]
    rw [if_pos (by omega), if_pos (by omega), if_pos (by omega), if_pos (by omega), if_pos trivial, up_ (by omega : i < l.length) hl]
theorem equal_ev (l : List ByteArray) (hl : l.length ≤ 9223372036854775807) : Ev (fun k => slices_Equal_string_string.f k l l) true := by
  refine Ev.congr (fun k => ?_) (equal_l0 l hl _ 0 rfl (Nat.zero_le _))
  simp only [slices_Equal_string_string.f]
  rw [if_pos trivial]; rfl

theorem nodes_law (l : List S34) (hf : FitL l) (hc : cntL l ≤ 1048576) : ∃ k, rostrumlaw12_ScopeNodes.f k l = some true := by
  refine Ev.rounds (g := fun k => rostrumlaw12_ScopeNodes.f k l) ?_
  have eF : scope_Free.f l = some ((setL (namesL l)).map baOf) := by unfold scope_Free.f; rw [if_pos ⟨of_fit hf, by omega⟩]; rfl
  have eS : scope_Size.f l = some ((cntL l : Nat) : Int) := by
    unfold scope_Size.f; rw [if_pos (of_fit hf)]
    have := size_prog _ l (Nat.le_refl _) 0 (by omega)
    simpa using this
  have hnl := names_len l
  have hsl := setL_len (namesL l)
  simp only [rostrumlaw12_ScopeNodes.f, eF, eS, Option.bind_some]
  refine Ev.bind (free_ref _ l (Nat.le_refl _) hc) ?_
  refine Ev.bind (equal_ev _ (by rw [List.length_map]; omega)) ?_
  refine Ev.congr (fun k => if_pos rfl) ?_
  refine Ev.bind (size_ref _ l (Nat.le_refl _) hc) ?_
  exact Ev.congr (fun k => by rw [beq_self_eq_true]) (Ev.now true)
end Go.Proofs.Ytcafjeehllkpiaa.D
