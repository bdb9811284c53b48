/- The reference's size, escaped and printed, against the plain functions. -/
import Derived.Test.YtjphkokfleoinaaHRef2
import Derived.Test.YtjphkokfleoinaaDx12
import Derived.Test.YtjphkokfleoinaaHPut
import Derived.Lib.LazyBuf
namespace Go.Proofs.Ytjphkokfleoinaa.D
open Go.RowKit Go.Proofs.YtjphkokfleoinaaW.PrintWords Go.Proofs.YtjphkokfleoinaaW.PrintLast Go.Proofs.YtjphkokfleoinaaW.PrintMore
set_option linter.unusedVariables false
set_option linter.unusedSimpArgs false

mutual
/-- How many data it has. -/
def cnt : S24 → Nat
  | ⟨_, _, l, u⟩ => 1 + cntL l + cntL u
def cntL : List S24 → Nat
  | [] => 0
  | a :: l => cnt a + cntL l
end
theorem cnt_wt (n : Nat) : ∀ x : S24, SizeOf.sizeOf x ≤ n → cnt x ≤ wt x := by
  induction n with
  | zero => intro a h; cases a; simp at h
  | succ n ih =>
    intro x hn
    obtain ⟨k, t, l, u⟩ := x
    have hL : ∀ (l : List S24), (∀ a ∈ l, SizeOf.sizeOf a ≤ n) → cntL l ≤ wtL l := by
      intro l
      induction l with
      | nil => intro _; simp [cntL, wtL]
      | cons a l ihl =>
        intro h
        have h1 := ih a (h a (List.mem_cons_self ..))
        have h2 := ihl (fun b hb => h b (List.mem_cons_of_mem _ hb))
        simp only [cntL, wtL]; omega
    simp only [S24.mk.sizeOf_spec] at hn
    have h1 := hL l (fun a ha => by have := List.sizeOf_lt_of_mem ha; omega)
    have h2 := hL u (fun a ha => by have := List.sizeOf_lt_of_mem ha; omega)
    simp only [cnt, wt]; omega
abbrev sizeStep : Int → S24 → Int → Int := fun v _ _ => wrap64 (v + 1)
theorem walk_size (n : Nat) : ∀ x : S24, SizeOf.sizeOf x ≤ n → ∀ d v : Int, 0 ≤ v → v + cnt x ≤ 9223372036854775807 → walkF sizeStep x d v = v + cnt x := by
  induction n with
  | zero => intro a h; cases a; simp at h
  | succ n ih =>
    intro x hn d v h1 h2
    obtain ⟨k, t, l, u⟩ := x
    have hL : ∀ (l : List S24), (∀ a ∈ l, SizeOf.sizeOf a ≤ n) → ∀ d v : Int, 0 ≤ v → v + cntL l ≤ 9223372036854775807 → walkL sizeStep l d v = v + cntL l := by
      intro l
      induction l with
      | nil => intro _ d v _ _; simp [walkL, cntL]
      | cons a l ihl =>
        intro h d v h1 h2
        simp only [cntL] at h2
        simp only [walkL, cntL]
        rw [ih a (h a (List.mem_cons_self ..)) d v h1 (by omega), ihl (fun b hb => h b (List.mem_cons_of_mem _ hb)) d _ (by omega) (by omega)]
        omega
    simp only [S24.mk.sizeOf_spec] at hn
    simp only [cnt] at h2
    simp only [walkF, cnt]
    rw [show sizeStep v ⟨k, t, l, u⟩ d = v + 1 from by show wrap64 (v + 1) = v + 1; unfold wrap64; omega]
    rw [hL l (fun a ha => by have := List.sizeOf_lt_of_mem ha; omega) _ _ (by omega) (by omega), hL u (fun a ha => by have := List.sizeOf_lt_of_mem ha; omega) _ _ (by omega) (by omega)]
    omega

def SizeAt (x : S24) : Prop := cnt x ≤ 9223372036854775807 → Ev (fun k => rostrumref10_size.f k x.f0 x.f1 x.f2 x.f3) (cnt x : Int)
theorem cntL_drop (l : List S24) (i : Nat) (h : i < l.length) : cntL (l.drop i) = cnt (rd_T24 l i) + cntL (l.drop (i + 1)) := by
  rw [List.drop_eq_getElem_cons h]
  simp only [cntL, ← rd_cast' h]
theorem size_l1 (u : List S24) (hu : u.length ≤ 9223372036854775807) (hf : ∀ i : Nat, i < u.length → SizeAt (rd_T24 u i)) (d : Nat) : ∀ i : Nat, u.length - i = d → i ≤ u.length → ∀ v : Nat, v + cntL (u.drop i) ≤ 9223372036854775807 →
    Ev (fun k => rostrumref10_size.l1 k (v : Int) u (u.length : Int) i) (((v + cntL (u.drop i) : Nat)) : Int) := by
  induction d with
  | zero =>
    intro i hd hi v hv
    rw [List.drop_eq_nil_of_le (by omega)]
    refine Ev.step (f := fun _ => some (v : Int)) (fun k => ?_) (by simpa [cntL] using Ev.now _)
    simp only [rostrumref10_size.l1]
    rw [if_neg (by omega)]
  | succ d ih =>
    intro i hd hi v hv
    have hlt : i < u.length := by omega
    rw [cntL_drop u i hlt] at hv ⊢
    refine Ev.step (f := fun k => (rostrumref10_size.f k (rd_T24 u i).f0 (rd_T24 u i).f1 (rd_T24 u i).f2 (rd_T24 u i).f3).bind fun t =>
      rostrumref10_size.l1 k (wrap64 (v + t)) u (u.length : Int) ((i + 1 : Nat) : Int)) (fun k => ?_) ?_
    · simp only [rostrumref10_size.l1]
      rw [if_pos (by omega), if_pos (by omega), if_pos (by omega), up_ hlt hu]
    · refine Ev.bind (hf i hlt (by omega)) ?_
      have := ih (i + 1) (by omega) (by omega) (v + cnt (rd_T24 u i)) (by omega)
      rw [show wrap64 ((v : Int) + (cnt (rd_T24 u i) : Int)) = ((v + cnt (rd_T24 u i) : Nat) : Int) from by unfold wrap64; omega]
      rw [← Nat.add_assoc]
      exact this
theorem size_l0 (a0 : Int) (a1 : ByteArray) (l u : List S24) (hl : l.length ≤ 9223372036854775807) (hu : u.length ≤ 9223372036854775807) (hf : ∀ i : Nat, i < l.length → SizeAt (rd_T24 l i)) (hg : ∀ i : Nat, i < u.length → SizeAt (rd_T24 u i)) (d : Nat) : ∀ i : Nat, l.length - i = d → i ≤ l.length → ∀ v : Nat, v + cntL (l.drop i) + cntL u ≤ 9223372036854775807 →
    Ev (fun k => rostrumref10_size.l0 k (v : Int) l (l.length : Int) i a0 a1 l u) (((v + cntL (l.drop i) + cntL u : Nat)) : Int) := by
  induction d with
  | zero =>
    intro i hd hi v hv
    rw [List.drop_eq_nil_of_le (by omega)] at hv ⊢
    refine Ev.step (f := fun k => rostrumref10_size.l1 k (v : Int) u (u.length : Int) 0) (fun k => ?_) (by simpa [cntL] using size_l1 u hu hg _ 0 rfl (Nat.zero_le _) v (by simpa [cntL] using hv))
    simp only [rostrumref10_size.l0]
    rw [if_neg (by omega)]
  | succ d ih =>
    intro i hd hi v hv
    have hlt : i < l.length := by omega
    rw [cntL_drop l i hlt] at hv ⊢
    refine Ev.step (f := fun k => (rostrumref10_size.f k (rd_T24 l i).f0 (rd_T24 l i).f1 (rd_T24 l i).f2 (rd_T24 l i).f3).bind fun t =>
      rostrumref10_size.l0 k (wrap64 (v + t)) l (l.length : Int) ((i + 1 : Nat) : Int) a0 a1 l u) (fun k => ?_) ?_
    · simp only [rostrumref10_size.l0]
      rw [if_pos (by omega), if_pos (by omega), if_pos (by omega), up_ hlt hl]
    · refine Ev.bind (hf i hlt (by omega)) ?_
      have := ih (i + 1) (by omega) (by omega) (v + cnt (rd_T24 l i)) (by omega)
      rw [show wrap64 ((v : Int) + (cnt (rd_T24 l i) : Int)) = ((v + cnt (rd_T24 l i) : Nat) : Int) from by unfold wrap64; omega]
      rw [← Nat.add_assoc]
      exact this
theorem ref_size (n : Nat) : ∀ x : S24, SizeOf.sizeOf x ≤ n → Fit x → SizeAt x := by
  induction n with
  | zero => intro a h; cases a; simp at h
  | succ n ih =>
    intro x hn hfit hc
    obtain ⟨k, t, l, u⟩ := x
    obtain ⟨_, hts, hml, hmu, hfl, hfu⟩ := hfit
    rw [FitL_iff] at hfl hfu
    have hL : ∀ i : Nat, i < l.length → SizeAt (rd_T24 l i) := fun i h => ih _ (by
      have := List.sizeOf_lt_of_mem (rd_mem h)
      simp only [S24.mk.sizeOf_spec] at hn
      omega) (hfl _ (rd_mem h))
    have hU : ∀ i : Nat, i < u.length → SizeAt (rd_T24 u i) := fun i h => ih _ (by
      have := List.sizeOf_lt_of_mem (rd_mem h)
      simp only [S24.mk.sizeOf_spec] at hn
      omega) (hfu _ (rd_mem h))
    show Ev (fun r => rostrumref10_size.f r k t l u) ((cnt ⟨k, t, l, u⟩ : Nat) : Int)
    simp only [cnt] at hc ⊢
    refine Ev.step (f := fun r => rostrumref10_size.l0 r 1 l (l.length : Int) 0 k t l u) (fun r => by simp only [rostrumref10_size.f]) ?_
    simpa using size_l0 k t l u hml hmu hL hU _ 0 rfl (Nat.zero_le _) 1 (by simpa using hc)

/-! ### The text -/
def bs_ (l : List UInt8) : ByteArray := ⟨l.toArray⟩
theorem bs_size (l : List UInt8) : (bs_ l).size = l.length := by simp [bs_, ByteArray.size]
theorem bs_append (a b : List UInt8) : bs_ a ++ bs_ b = bs_ (a ++ b) := by
  apply ByteArray.ext
  simp [bs_]
def nm (l : List UInt8) : List Int := l.map fun b => (b.toNat : Int)
theorem nm_length (l : List UInt8) : (nm l).length = l.length := by simp [nm]
theorem nm_append (a b : List UInt8) : nm a ++ nm b = nm (a ++ b) := by simp [nm]
theorem esc_drop (l : List UInt8) (i : Nat) (h : i < l.length) : escB (l.drop i) = escOne l[i] ++ escB (l.drop (i + 1)) := by
  rw [List.drop_eq_getElem_cons h]; rfl
theorem ref_esc_l0 (t : ByteArray) (ht : t.size ≤ 9223372036854775807) (d : Nat) : ∀ i : Nat, t.size - i = d → i ≤ t.size → ∀ q : List UInt8, q.length + (escB (t.data.toList.drop i)).length ≤ 100000000000000 →
    Ev (fun k => rostrumref10_escaped.l0 k t (nm q) (i : Int)) (bs_ ([34] ++ q ++ escB (t.data.toList.drop i) ++ [34])) := by
  have hsz : t.data.toList.length = t.size := by simp
  induction d with
  | zero =>
    intro i hd hi q hq
    have hn : escB (t.data.toList.drop i) = [] := by rw [List.drop_eq_nil_of_le (by rw [hsz]; omega)]; rfl
    rw [hn] at hq ⊢
    simp only [List.length_nil] at hq
    refine Ev.step (f := fun _ => some (bs_ ([34] ++ q ++ [] ++ [34]))) (fun k => ?_) (Ev.now _)
    simp only [rostrumref10_escaped.l0]
    rw [if_neg (by omega)]
    have e1 : strOfNums (nm q) = bs_ q := Lib.Lz.strOfNums_map q
    have e2 : (⟨#[34]⟩ : ByteArray) = bs_ [34] := rfl
    rw [e1, e2, bs_append, bs_append, if_pos (by rw [bs_size]; omega), if_pos (by rw [bs_size]; simp; omega)]
    simp
  | succ d ih =>
    intro i hd hi q hq
    have hlt : i < t.size := by omega
    have hlt2 : i < t.data.toList.length := by rw [hsz]; exact hlt
    rw [esc_drop _ _ hlt2] at hq ⊢
    generalize hc : t.data.toList[i] = c at hq ⊢
    have hbt : bt t (i : Int) = (c.toNat : Int) := by
      rw [← bt_at t i (by simpa using hlt)]
      rw [← hc]; rfl
    have hgo : ∀ y : List UInt8, y = escOne c → Ev (fun k => rostrumref10_escaped.l0 k t (nm q ++ nm y) (wrap64 ((i : Int) + 1))) (bs_ ([34] ++ q ++ (escOne c ++ escB (t.data.toList.drop (i + 1))) ++ [34])) := by
      intro y hy
      rw [← hy] at hq ⊢
      simp only [List.length_append] at hq
      rw [nm_append, up_ hlt ht]
      have := ih (i + 1) (by omega) (by omega) (q ++ y) (by rw [List.length_append]; omega)
      simpa using this
    have hlen : (escOne c).length ≤ 2 := by unfold escOne; repeat' split
                                            all_goals simp
    simp only [List.length_append] at hq
    have hge := escOne_pos c
    have h34 : (c.toNat : Int) = 34 ↔ c = 34 := ⟨fun h => UInt8.toNat_inj.1 ((show c.toNat = 34 by omega).trans rfl), fun h => by rw [h]; rfl⟩
    have h92 : (c.toNat : Int) = 92 ↔ c = 92 := ⟨fun h => UInt8.toNat_inj.1 ((show c.toNat = 92 by omega).trans rfl), fun h => by rw [h]; rfl⟩
    have h10 : (c.toNat : Int) = 10 ↔ c = 10 := ⟨fun h => UInt8.toNat_inj.1 ((show c.toNat = 10 by omega).trans rfl), fun h => by rw [h]; rfl⟩
    have h9 : (c.toNat : Int) = 9 ↔ c = 9 := ⟨fun h => UInt8.toNat_inj.1 ((show c.toNat = 9 by omega).trans rfl), fun h => by rw [h]; rfl⟩
    have htrue : (c = 34 ∨ c = 92) → Ev (fun k => rostrumref10_escaped.j1 k t (nm q) (i : Int) (c.toNat : Int) true) (bs_ ([34] ++ q ++ (escOne c ++ escB (t.data.toList.drop (i + 1))) ++ [34])) := by
      intro h
      refine Ev.step (fun k => ?_) (hgo [92, c] (by rcases h with rfl | rfl <;> rfl))
      simp only [rostrumref10_escaped.j1, if_true, hbt, Option.bind_some, List.length_cons, List.length_nil, nm_length]
      rw [if_pos (by omega), if_pos (by omega), if_pos (by omega)]
      rfl
    by_cases e34 : c = 34
    · refine Ev.step (fun k => ?_) (htrue (.inl e34))
      simp only [rostrumref10_escaped.l0, hbt]
      rw [if_pos (by omega), if_pos (by omega), if_pos (h34.2 e34), h34.2 e34]
      rfl
    · by_cases e92 : c = 92
      · refine Ev.step (fun k => ?_) (htrue (.inr e92))
        simp only [rostrumref10_escaped.l0, hbt]
        rw [if_pos (by omega), if_pos (by omega), if_neg (fun h => e34 (h34.1 h)), h92.2 e92]
        rfl
      · refine Ev.step (f := fun k => rostrumref10_escaped.j1 k t (nm q) (i : Int) (c.toNat : Int) false) (fun k => ?_) ?_
        · simp only [rostrumref10_escaped.l0, hbt]
          rw [if_pos (by omega), if_pos (by omega), if_neg (fun h => e34 (h34.1 h))]
          rw [show ((c.toNat : Int) == 92) = false from beq_eq_false_iff_ne.2 (fun h => e92 (h92.1 h))]
        · by_cases e10 : c = 10
          · refine Ev.step (fun k => ?_) (hgo [92, 110] (by rw [e10]; rfl))
            simp only [rostrumref10_escaped.j1, hbt, Option.bind_some, List.length_cons, List.length_nil, nm_length]
            rw [if_neg (by simp), if_pos (h10.2 e10), if_pos (by omega)]
            rfl
          · by_cases e9 : c = 9
            · refine Ev.step (fun k => ?_) (hgo [92, 116] (by rw [e9]; rfl))
              simp only [rostrumref10_escaped.j1, hbt, Option.bind_some, List.length_cons, List.length_nil, nm_length]
              rw [if_neg (by simp), if_neg (fun h => e10 (h10.1 h)), if_pos (h9.2 e9), if_pos (by omega)]
              rfl
            · refine Ev.step (fun k => ?_) (hgo [c] (by unfold escOne; rw [if_neg e92, if_neg e34, if_neg e10, if_neg e9]))
              simp only [rostrumref10_escaped.j1, hbt, Option.bind_some, List.length_cons, List.length_nil, nm_length]
              rw [if_neg (by simp), if_neg (fun h => e10 (h10.1 h)), if_neg (fun h => e9 (h9.1 h)), if_pos (by omega), if_pos (by omega), if_pos (by omega)]
              rfl
theorem ref_escaped (t : ByteArray) (ht : t.size ≤ 9223372036854775807) (hq : (escB t.data.toList).length ≤ 100000000000000) :
    Ev (fun k => rostrumref10_escaped.f k t) (bs_ ([34] ++ escB t.data.toList ++ [34])) := by
  have := ref_esc_l0 t ht _ 0 rfl (Nat.zero_le _) [] (by simpa using hq)
  simpa [rostrumref10_escaped.f, nm] using this
end Go.Proofs.Ytjphkokfleoinaa.D
