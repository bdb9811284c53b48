
/- heap: move and run, as plain functions. -/
import Derived.Test.YtlghnldlkbgajaaHMove2
namespace Go.Proofs.Ytlghnldlkbgajaa.S
open Go.RowKit Go.Proofs.YtlghnldlkbgajaaW.PrintWords Go.Proofs.YtlghnldlkbgajaaW.PrintLast Go.Proofs.YtlghnldlkbgajaaW.PrintMore
set_option linter.unusedVariables false
set_option linter.unusedSimpArgs false

/-- How the mover stands: the next word, where each went, the queue. -/
structure Mv where
  nx : Int
  tt : List (Int × Int)
  q : List Int
def mvF (L : List OW) (s : Mv) (x : Int) : Int × Mv :=
  if L.any (fun o => decide (o.k = x)) then
    match toGet s.tt x with
    | some n => (n, s)
    | none => (s.nx, ⟨s.nx + 2, s.tt ++ [(x, s.nx)], s.q ++ [x]⟩)
  else (x, s)
def HH.at (h : HH) (n : Int) : HH := { h with nx := n }
/-- What the mover has met are objects, each once. -/
structure QOk (L : List OW) (s : Mv) : Prop where
  keys : s.tt.map (·.1) = s.q
  nodup : s.q.Nodup
  mem : ∀ x ∈ s.q, ∃ o ∈ L, o.k = x
theorem nodup_le : ∀ (l m : List Int), l.Nodup → (∀ x ∈ l, x ∈ m) → l.length ≤ m.length
  | [], m, _, _ => Nat.zero_le _
  | a :: l, m, h, hs => by
    rw [List.nodup_cons] at h
    have ha : a ∈ m := hs a (by simp)
    have h1 := nodup_le l (m.erase a) h.2 (fun x hx => (List.mem_erase_of_ne (fun e => h.1 (by rw [← e]; exact hx))).2 (hs x (by simp [hx])))
    have h2 := List.length_erase_of_mem ha
    have h3 : 0 < m.length := List.length_pos_of_mem ha
    simp only [List.length_cons]
    omega
theorem QOk.len {L : List OW} {s : Mv} (h : QOk L s) : s.q.length ≤ L.length := by
  have := nodup_le s.q (L.map (·.k)) h.nodup (fun x hx => by
    obtain ⟨o, ho, e⟩ := h.mem x hx
    exact List.mem_map.2 ⟨o, ho, e⟩)
  simpa using this
theorem toGet_none {m : List (Int × Int)} {x : Int} (h : toGet m x = none) : x ∉ m.map (·.1) := by
  intro hx
  obtain ⟨p, hp, e⟩ := List.mem_map.1 hx
  unfold toGet at h
  rw [Option.map_eq_none_iff, List.find?_eq_none] at h
  exact h p hp (by simpa using e)
theorem QOk.move {L : List OW} {s : Mv} (h : QOk L s) (x : Int) : QOk L (mvF L s x).2 := by
  unfold mvF
  split
  · next hany =>
    split
    · exact h
    · next hn =>
      have hx := toGet_none hn
      rw [h.keys] at hx
      refine ⟨by simp [h.keys], ?_, fun y hy => ?_⟩
      · exact List.nodup_append.2 ⟨h.nodup, by simp, fun a ha b hb => by
          have hb : b = x := by simpa using hb
          subst hb
          intro e
          exact hx (e ▸ ha)⟩
      · rcases List.mem_append.1 hy with hy | hy
        · exact h.mem y hy
        · obtain rfl := List.mem_singleton.1 hy
          obtain ⟨o, ho, e⟩ := List.any_eq_true.1 hany
          exact ⟨o, ho, by simpa using e⟩
  · exact h
theorem move_calls {w0 w : World} {g b B : Nat} {R : Option Addr} {rc : Nat} {L : List OW} {h : HH} {mv tb : Nat} {all : Bool} {s : Mv} (H : MS w0 w g b B R rc L (h.at s.nx) mv tb all s.tt s.q) (x : Int) (hnx : s.nx ≤ 1000000000000000) (hq : s.q.length ≤ 1000000000000) :
    Calls Try.prog 59 #[ptr mv, .int .i64 x] w fun e w' => e = .returned (.int .i64 (mvF L s x).1) ∧ MS w0 w' g b B R rc L (h.at (mvF L s x).2.nx) mv tb all (mvF L s x).2.tt (mvF L s x).2.q := by
  unfold mvF
  by_cases hany : L.any (fun o => decide (o.k = x)) = true
  · rw [if_pos hany]
    obtain ⟨o, ho, e⟩ := List.any_eq_true.1 hany
    have e : o.k = x := by simpa using e
    subst e
    cases hg : toGet s.tt o.k with
    | some n => exact (move_hit H ho hg).mono fun e w' ⟨h1, h2⟩ => ⟨h1, by rw [h2]; exact H⟩
    | none => exact (move_new H ho hg hnx hq).mono fun e w' ⟨h1, h2⟩ => ⟨h1, h2⟩
  · rw [if_neg hany]
    have hno : ∀ y ∈ L, y.k ≠ x := fun y hy e => hany (List.any_eq_true.2 ⟨y, hy, by simpa using e⟩)
    exact (move_no H hno).mono fun e w' ⟨h1, h2⟩ => ⟨h1, by rw [h2]; exact H⟩
/-- A row of words, each moved. -/
def mvAll (L : List OW) (s : Mv) (l : List Int) : Mv := l.foldl (fun s x => (mvF L s x).2) s
theorem QOk.all {L : List OW} : ∀ (l : List Int) {s : Mv}, QOk L s → QOk L (mvAll L s l)
  | [], s, h => h
  | x :: l, s, h => QOk.all l (h.move x)
theorem mvF_nx (L : List OW) (s : Mv) (x : Int) : (mvF L s x).2.nx = s.nx + 2 * (((mvF L s x).2.q.length : Int) - s.q.length) := by
  unfold mvF
  split
  · split
    · simp
    · simp; omega
  · simp
end Go.Proofs.Ytlghnldlkbgajaa.S
