
/- The reference's printed, against the plain text; and the law in plain words. -/
import Derived.Test.YtpkfppfdkdjlhaaDoorDx12
import Derived.Test.YtpkfppfdkdjlhaaDoorDx13
import Derived.Test.YtpkfppfdkdjlhaaDoorDx9
import Derived.Test.YtpkfppfdkdjlhaaDoorHRef3
namespace Go.Proofs.YtpkfppfdkdjlhaaDoor.D
open Go.RowKit Go.Proofs.YtpkfppfdkdjlhaaDoorW.PrintWords Go.Proofs.YtpkfppfdkdjlhaaDoorW.PrintLast Go.Proofs.YtpkfppfdkdjlhaaDoorW.PrintMore
set_option linter.unusedVariables false
set_option linter.unusedSimpArgs false

def PrintedAt (x : S42) : Prop := ∀ m : Int, rightB x m = true → (putB x).length ≤ 100000000000000 → Ev (fun k => rostrumref10_printed.f k x.f0 x.f1 x.f2 x.f3) (bs_ (putB x))
theorem putT_drop (u : List S42) (i : Nat) (h : i < u.length) : putT (u.drop i) = [32, 46, 32] ++ putB (rd_T42 u i) ++ putT (u.drop (i + 1)) := by
  rw [List.drop_eq_getElem_cons h]
  simp only [putT, ← rd_cast' h]
theorem putL_drop (l : List S42) (i : Nat) (h : i < l.length) : putL (i == 0) (l.drop i) = sep i ++ putB (rd_T42 l i) ++ putL false (l.drop (i + 1)) := by
  rw [List.drop_eq_getElem_cons h]
  cases i with
  | zero => simp [putL, sep, ← rd_cast' h]
  | succ i =>
    rw [show (i + 1 == 0) = false from by simp]
    simp only [putL, sep, ← rd_cast' h]
    rw [if_neg (by omega)]
theorem rightL_at (l : List S42) (m : Int) (h : rightL l m = true) (i : Nat) (hi : i < l.length) : rightB (rd_T42 l i) m = true := by
  rw [rightL_all, List.all_eq_true] at h
  exact h _ (rd_mem hi)
theorem printed_l1 (u : List S42) (m : Int) (hr : rightL u m = true) (hu : u.length ≤ 9223372036854775807) (hf : ∀ i : Nat, i < u.length → PrintedAt (rd_T42 u i)) (d : Nat) : ∀ i : Nat, u.length - i = d → i ≤ u.length → ∀ p : List UInt8, p.length + (putT (u.drop i)).length + 1 ≤ 100000000000000 →
    Ev (fun k => rostrumref10_printed.l1 k (bs_ p) u (u.length : Int) i) (bs_ (p ++ putT (u.drop i) ++ [41])) := by
  induction d with
  | zero =>
    intro i hd hi p hp
    rw [List.drop_eq_nil_of_le (by omega)] at hp ⊢
    refine Ev.step (f := fun _ => some (bs_ (p ++ [] ++ [41]))) (fun k => ?_) (by simpa [putT] using Ev.now _)
    simp only [rostrumref10_printed.l1]
    rw [if_neg (by omega), show (⟨#[41]⟩ : ByteArray) = bs_ [41] from rfl, bs_append, if_pos (by rw [bs_size]; omega)]
    simp
  | succ d ih =>
    intro i hd hi p hp
    have hlt : i < u.length := by omega
    rw [putT_drop u i hlt] at hp ⊢
    simp only [List.length_append, List.length_cons, List.length_nil] at hp
    refine Ev.step (f := fun k => (rostrumref10_printed.f k (rd_T42 u i).f0 (rd_T42 u i).f1 (rd_T42 u i).f2 (rd_T42 u i).f3).bind fun t183 =>
      if 3 + t183.size ≤ 9223372036854775807 then (if (bs_ p).size + ((⟨#[32, 46, 32]⟩ : ByteArray) ++ t183).size ≤ 9223372036854775807 then (rostrumref10_printed.l1 k (bs_ p ++ ((⟨#[32, 46, 32]⟩ : ByteArray) ++ t183)) u (u.length : Int) ((i + 1 : Nat) : Int)) else none) else none) (fun k => ?_) ?_
    · simp only [rostrumref10_printed.l1]
      rw [if_pos (by omega), if_pos (by omega), if_pos (by omega), up_ hlt hu]
    · refine Ev.bind (hf i hlt m (rightL_at u m hr i hlt) (by omega)) ?_
      rw [show (⟨#[32, 46, 32]⟩ : ByteArray) = bs_ [32, 46, 32] from rfl, bs_append, bs_append, bs_size, bs_size, bs_size]
      refine Ev.congr (f := fun k => rostrumref10_printed.l1 k (bs_ (p ++ ([32, 46, 32] ++ putB (rd_T42 u i)))) u (u.length : Int) ((i + 1 : Nat) : Int)) (fun k => ?_) ?_
      · rw [if_pos (by omega), if_pos (by simp only [List.length_append, List.length_cons, List.length_nil]; omega)]
      · have := ih (i + 1) (by omega) (by omega) (p ++ ([32, 46, 32] ++ putB (rd_T42 u i))) (by simp only [List.length_append, List.length_cons, List.length_nil]; omega)
        simpa using this
theorem printed_l0 (a0 : Int) (a1 : ByteArray) (l u : List S42) (m : Int) (hrl : rightL l m = true) (hr : rightL u m = true) (hl : l.length ≤ 9223372036854775807) (hu : u.length ≤ 9223372036854775807) (hf : ∀ i : Nat, i < l.length → PrintedAt (rd_T42 l i)) (hg : ∀ i : Nat, i < u.length → PrintedAt (rd_T42 u i)) (d : Nat) : ∀ i : Nat, l.length - i = d → i ≤ l.length → ∀ p : List UInt8, p.length + (putL (i == 0) (l.drop i)).length + (putT u).length + 1 ≤ 100000000000000 →
    Ev (fun k => rostrumref10_printed.l0 k (bs_ p) l (l.length : Int) i a0 a1 l u) (bs_ (p ++ putL (i == 0) (l.drop i) ++ putT u ++ [41])) := by
  induction d with
  | zero =>
    intro i hd hi p hp
    rw [List.drop_eq_nil_of_le (by omega)] at hp ⊢
    have hn : putL (i == 0) [] = [] := by cases (i == 0) <;> rfl
    rw [hn] at hp ⊢
    simp only [List.length_nil] at hp
    refine Ev.step (f := fun k => rostrumref10_printed.l1 k (bs_ p) u (u.length : Int) 0) (fun k => ?_) (by simpa using printed_l1 u m hr hu hg _ 0 rfl (Nat.zero_le _) p (by simpa using hp))
    simp only [rostrumref10_printed.l0]
    rw [if_neg (by omega)]
  | succ d ih =>
    intro i hd hi p hp
    have hlt : i < l.length := by omega
    rw [putL_drop l i hlt] at hp ⊢
    simp only [List.length_append, List.length_cons, List.length_nil] at hp
    have hnext : ∀ y : List UInt8, y = sep i → Ev (fun k => (rostrumref10_printed.f k (rd_T42 l i).f0 (rd_T42 l i).f1 (rd_T42 l i).f2 (rd_T42 l i).f3).bind fun t180 =>
        if (bs_ (p ++ y)).size + t180.size ≤ 9223372036854775807 then rostrumref10_printed.l0 k (bs_ (p ++ y) ++ t180) l (l.length : Int) ((i + 1 : Nat) : Int) a0 a1 l u else none) (bs_ (p ++ (sep i ++ putB (rd_T42 l i) ++ putL false (l.drop (i + 1))) ++ putT u ++ [41])) := by
      intro y hy
      rw [← hy] at hp ⊢
      refine Ev.bind (hf i hlt m (rightL_at l m hrl i hlt) (by omega)) ?_
      rw [bs_append, bs_size, bs_size]
      refine Ev.congr (f := fun k => rostrumref10_printed.l0 k (bs_ (p ++ y ++ putB (rd_T42 l i))) l (l.length : Int) ((i + 1 : Nat) : Int) a0 a1 l u) (fun k => ?_) ?_
      · rw [if_pos (by simp only [List.length_append]; omega)]
      · have := ih (i + 1) (by omega) (by omega) (p ++ y ++ putB (rd_T42 l i)) (by
          rw [show (i + 1 == 0) = false from by simp]
          simp only [List.length_append]; omega)
        rw [show (i + 1 == 0) = false from by simp] at this
        simpa using this
    by_cases hi0 : i = 0
    · refine Ev.step (fun k => ?_) (hnext [] (by rw [hi0]; rfl))
      simp only [rostrumref10_printed.l0]
      rw [if_pos (by omega), if_pos (by omega), if_pos (by omega), if_neg (by omega), up_ hlt hl]
      simp
    · have hs : sep i = [32] := if_neg hi0
      rw [hs] at hp
      simp only [List.length_cons, List.length_nil] at hp
      refine Ev.step (fun k => ?_) (hnext [32] hs.symm)
      simp only [rostrumref10_printed.l0]
      rw [if_pos (by omega), if_pos (by omega), if_pos (by omega), if_pos (by omega), up_ hlt hl, show (⟨#[32]⟩ : ByteArray) = bs_ [32] from rfl, bs_append, if_pos (by rw [bs_size]; omega)]
theorem bs_self (t : ByteArray) : bs_ t.data.toList = t := by
  apply ByteArray.ext
  simp [bs_]
theorem ref_printed (n : Nat) : ∀ x : S42, SizeOf.sizeOf x ≤ n → Fit x → PrintedAt x := by
  induction n with
  | zero => intro a h; cases a; simp at h
  | succ n ih =>
    intro x hn hfit m hr hlen
    obtain ⟨k, t, l, u⟩ := x
    obtain ⟨_, hts, hml, hmu, hfl, hfu⟩ := hfit
    rw [FitL_iff] at hfl hfu
    have hL : ∀ i : Nat, i < l.length → PrintedAt (rd_T42 l i) := fun i h => ih _ (by
      have := List.sizeOf_lt_of_mem (rd_mem h)
      simp only [S42.mk.sizeOf_spec] at hn
      omega) (hfl _ (rd_mem h))
    have hU : ∀ i : Nat, i < u.length → PrintedAt (rd_T42 u i) := fun i h => ih _ (by
      have := List.sizeOf_lt_of_mem (rd_mem h)
      simp only [S42.mk.sizeOf_spec] at hn
      omega) (hfu _ (rd_mem h))
    show Ev (fun r => rostrumref10_printed.f r k t l u) (bs_ (putB ⟨k, t, l, u⟩))
    by_cases hk : k = 5 ∨ k = 6
    · rw [right_list _ _ _ _ _ hk] at hr
      simp only [Bool.and_eq_true, decide_eq_true_eq] at hr
      have hj : ∀ p : List UInt8, p.length + (putL true l).length + (putT u).length + 1 ≤ 100000000000000 → Ev (fun r => rostrumref10_printed.j0 r (bs_ p) k t l u) (bs_ (p ++ putL true l ++ putT u ++ [41])) := fun p hp =>
        Ev.step (f := fun r => rostrumref10_printed.l0 r (bs_ p) l (l.length : Int) 0 k t l u) (fun r => by simp only [rostrumref10_printed.j0]) (by simpa using printed_l0 k t l u (m - 1) hr.1.2 hr.2 hml hmu hL hU _ 0 rfl (Nat.zero_le _) p (by simpa using hp))
      rcases hk with rfl | rfl
      · refine Ev.step (f := fun r => rostrumref10_printed.j0 r (bs_ [40]) 5 t l u) (fun r => by simp only [rostrumref10_printed.f]; rw [if_neg (by omega), if_neg (by omega), if_neg (by omega), if_neg (by omega), if_neg (by omega)]; rfl) ?_
        have hp : putB ⟨5, t, l, u⟩ = [40] ++ putL true l ++ putT u ++ [41] := by simp [putB]
        rw [hp] at hlen ⊢
        simp only [List.length_append, List.length_cons, List.length_nil] at hlen
        exact hj [40] (by simp; omega)
      · refine Ev.step (f := fun r => rostrumref10_printed.j0 r (bs_ [35, 40]) 6 t l u) (fun r => by simp only [rostrumref10_printed.f]; rw [if_neg (by omega), if_neg (by omega), if_neg (by omega), if_neg (by omega), if_pos trivial]; rfl) ?_
        have hp : putB ⟨6, t, l, u⟩ = [35, 40] ++ putL true l ++ putT u ++ [41] := by simp [putB]
        rw [hp] at hlen ⊢
        simp only [List.length_append, List.length_cons, List.length_nil] at hlen
        exact hj [35, 40] (by simp; omega)
    · obtain ⟨rfl, rfl, h4⟩ := right_leaf hk hr
      by_cases h3 : k = 3
      · subst h3
        have hp : putB ⟨3, t, [], []⟩ = [34] ++ escB t.data.toList ++ [34] := by simp [putB]
        rw [hp] at hlen ⊢
        simp only [List.length_append, List.length_cons, List.length_nil] at hlen
        refine Ev.step (f := fun r => (rostrumref10_escaped.f r t).bind fun t176 => some t176) (fun r => by simp only [rostrumref10_printed.f]; rw [if_pos trivial]) ?_
        exact Ev.bind (ref_escaped t hts (by omega)) (Ev.now _)
      · have hp : putB ⟨k, t, [], []⟩ = t.data.toList := by
          simp only [putB]
          rw [if_neg h3, if_neg (fun e => hk (.inr e)), if_neg (fun e => hk (.inl e))]
        rw [hp, bs_self]
        refine Ev.step (f := fun _ => some t) (fun r => ?_) (Ev.now _)
        simp only [rostrumref10_printed.f]
        rcases h4 with rfl | rfl | rfl | rfl
        · rw [if_neg (by omega), if_pos rfl]
        · rw [if_neg (by omega), if_neg (by omega), if_pos rfl]
        · exact absurd rfl h3
        · rw [if_neg (by omega), if_neg (by omega), if_neg (by omega), if_pos rfl]

theorem escB_le (l : List UInt8) : (escB l).length ≤ 2 * l.length := by
  induction l with
  | nil => simp [escB]
  | cons c l ih =>
    have hlen : (escOne c).length ≤ 2 := by
      unfold escOne; repeat' split
      all_goals simp
    simp only [escB, List.length_append, List.length_cons]; omega
theorem put_wt (n : Nat) : ∀ x : S42, SizeOf.sizeOf x ≤ n → (putB x).length + 3 ≤ 2 * wt x := by
  induction n with
  | zero => intro a h; cases a; simp at h
  | succ n ih =>
    intro x hn
    obtain ⟨k, t, l, u⟩ := x
    have hL : ∀ (l : List S42), (∀ a ∈ l, SizeOf.sizeOf a ≤ n) → ∀ b, (putL b l).length ≤ 2 * wtL l := by
      intro l
      induction l with
      | nil => intro _ b; cases b <;> simp [putL, wtL]
      | cons a l ihl =>
        intro h b
        have h1 := ih a (h a (List.mem_cons_self ..))
        have h2 := ihl (fun b hb => h b (List.mem_cons_of_mem _ hb)) false
        cases b <;> simp only [putL, wtL, List.length_append, List.length_cons, List.length_nil] <;> omega
    have hT : ∀ (l : List S42), (∀ a ∈ l, SizeOf.sizeOf a ≤ n) → (putT l).length ≤ 2 * wtL l := by
      intro l
      induction l with
      | nil => intro _; simp [putT, wtL]
      | cons a l ihl =>
        intro h
        have h1 := ih a (h a (List.mem_cons_self ..))
        have h2 := ihl (fun b hb => h b (List.mem_cons_of_mem _ hb))
        simp only [putT, wtL, List.length_append, List.length_cons, List.length_nil]; omega
    simp only [S42.mk.sizeOf_spec] at hn
    have h1 := hL l (fun a ha => by have := List.sizeOf_lt_of_mem ha; omega) true
    have h2 := hT u (fun a ha => by have := List.sizeOf_lt_of_mem ha; omega)
    have h3 := escB_le t.data.toList
    have hsz : t.data.toList.length = t.size := by simp
    simp only [putB, wt]
    split
    · simp only [List.length_append, List.length_cons, List.length_nil]; omega
    · split
      · simp only [List.length_append, List.length_cons, List.length_nil]; omega
      · split
        · simp only [List.length_append, List.length_cons, List.length_nil]; omega
        · omega

theorem ref_can (x : S42) (hf : Fit x) : Ev (fun k => rostrumref10_Can.f k x.f0 x.f1 x.f2 x.f3) (rightB x 64) := by
  have h1 := ref_may _ x (Nat.le_refl _) hf 66 (by omega) (by omega)
  have h2 := ref_depth _ x (Nat.le_refl _) hf 66 (by omega) (by omega)
  have h3 := right_depth _ x (Nat.le_refl _) 64 (by omega)
  simp only [rostrumref10_Can.f]
  refine Ev.bind h1 ?_
  rw [show (64 : Int) + 2 = 66 from rfl] at h3
  rw [← h3]
  cases hr : rightB x 66 with
  | false => simpa using Ev.now false
  | true => simpa using Ev.bind h2 (Ev.now (decide (dR x 66 ≤ 64)))
end Go.Proofs.YtpkfppfdkdjlhaaDoor.D
