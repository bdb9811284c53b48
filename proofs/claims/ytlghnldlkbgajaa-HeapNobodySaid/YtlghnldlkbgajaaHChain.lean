/- heap: the chain of three pairs: what each call makes of it. -/
import Derived.Test.YtlghnldlkbgajaaHRoots
namespace Go.Proofs.Ytlghnldlkbgajaa.S
open Go.RowKit Go.Proofs.YtlghnldlkbgajaaW.PrintWords Go.Proofs.YtlghnldlkbgajaaW.PrintLast Go.Proofs.YtlghnldlkbgajaaW.PrintMore
set_option linter.unusedVariables false
set_option linter.unusedSimpArgs false

theorem row2 (w : World) (a c : Int) : Row (w.alloc (.cells #[.int .i64 a, .int .i64 c] 28)) w.heap.size [a, c] := ⟨_, heap_alloc_new w _, fun i hi => by
  rcases i with _ | _ | i
  · rfl
  · rfl
  · exact absurd hi (by simp)⟩
theorem row1 (w : World) (a : Int) : Row (w.alloc (.cells #[.int .i64 a] 28)) w.heap.size [a] := ⟨_, heap_alloc_new w _, fun i hi => by
  rcases i with _ | i
  · rfl
  · exact absurd hi (by simp)⟩
/-- The word of the last of so many pairs. -/
def rI : Nat → Int
  | 0 => 0
  | j + 1 => 4 * (j : Int) + 2
/-- The pairs are there. -/
def Mem (L : List Ob) (n : Nat) : Prop := ∀ j, j < n → ∃ o ∈ L, o.k = 4 * (j : Int) + 2 ∧ o.kind = 1 ∧ o.fs = [2 * (j : Int) + 1, rI j]
theorem even3 (j : Nat) (hj : j < 3) : (bits BinOp.and .i64 (4 * (j : Int) + 2) 1 == 1) = false := by
  match j, hj with
  | 0, _ => decide
  | 1, _ => decide
  | 2, _ => decide
theorem odd3 (j : Nat) (hj : j < 3) : (bits BinOp.and .i64 (2 * (j : Int) + 1) 1 == 1) = true := by
  match j, hj with
  | 0, _ => decide
  | 1, _ => decide
  | 2, _ => decide
theorem Mem.th {L : List Ob} {n : Nat} (h : Mem L n) (hn : n ≤ 3) {j : Nat} (hj : j < n) : Th L (4 * (j : Int) + 2) := by
  obtain ⟨o, ho, hk, -, -⟩ := h j hj
  exact .inr (.inr ⟨o, ho, hk, even3 j (by omega), by omega⟩)
theorem Mem.thI {L : List Ob} {n : Nat} (h : Mem L n) (hn : n ≤ 3) {j : Nat} (hj : j ≤ n) : Th L (rI j) := by
  cases j with
  | zero => exact .inr (.inl rfl)
  | succ j => exact h.th hn (by omega)
theorem Mem.more {L : List Ob} {n : Nat} (h : Mem L n) (x : Ob) : Mem (L ++ [x]) n := fun j hj => by
  obtain ⟨o, ho, h1⟩ := h j hj
  exact ⟨o, List.mem_append_left _ ho, h1⟩
theorem Mem.step {L : List Ob} {n : Nat} (h : Mem L n) (x : Ob) (h1 : x.k = 4 * (n : Int) + 2) (h2 : x.kind = 1) (h3 : x.fs = [2 * (n : Int) + 1, rI n]) : Mem (L ++ [x]) (n + 1) := fun j hj => by
  by_cases hjn : j < n
  · exact h.more x j hjn
  · obtain rfl : j = n := by omega
    exact ⟨x, by simp, h1, h2, h3⟩

theorem pos_more {L : List Ob} {x : Ob} (h : ∀ y ∈ L, 0 < y.k) (hx : 0 < x.k) : ∀ y ∈ L ++ [x], 0 < y.k := fun y hy => by
  rcases List.mem_append.1 hy with hy | hy
  · exact h y hy
  · obtain rfl := List.mem_singleton.1 hy; exact hx
/-- The chain, all of it behind w0. -/
structure ChI (w0 w : World) (g b rb rc : Nat) (nx r u : Int) (n : Nat) : Prop where
  hp : ∃ L, HpAt w g b rb rc L nx r u ∧ Mem L n ∧ ∀ x ∈ L, 0 < x.k
  below : Below w0.heap.size w0 w
  low : w0.heap.size ≤ g ∧ w0.heap.size ≤ b ∧ w0.heap.size ≤ rb
theorem ChI.below' {w0 w w' : World} {g b rb rc : Nat} {nx r u : Int} {n : Nat} (h : ChI w0 w g b rb rc nx r u n) (hb : Below w.heap.size w w') : ChI w0 w' g b rb rc nx r u n := by
  obtain ⟨L, h1, h2, h3⟩ := h.hp
  exact ⟨⟨L, h1.fr0 (Fr.ofBelow hb []), h2, h3⟩, below_step h.below hb, h.low⟩
theorem ChI.alloc {w0 w : World} {g b rb rc : Nat} {nx r u : Int} {n : Nat} (h : ChI w0 w g b rb rc nx r u n) (o : Obj) : ChI w0 (w.alloc o) g b rb rc nx r u n := h.below' ((Below.refl _ _).alloc (Nat.le_refl _) _)
theorem ChI.drew {w0 w : World} {g b rb rc : Nat} {nx r u : Int} {n : Nat} (h : ChI w0 w g b rb rc nx r u n) : ChI w0 w.drew g b rb rc nx r u n := h.below' ((Below.refl _ _).drew)
theorem ch_root {w0 w : World} {g b rb rc : Nat} {nx r u : Int} {n : Nat} (h : ChI w0 w g b rb rc nx r u n) : Calls Try.prog 11 #[ptr g, .int .i64 0] w fun e w' => e = .returned (.int .i64 r) ∧ w' = w := by
  obtain ⟨L, h1, h2, h3⟩ := h.hp
  exact root_ok h1
theorem ch_pair {w0 w : World} {g b rb rc i fa : Nat} (h : ChI w0 w g b rb rc (4 * (i : Int) + 2) (rI i) (5 * (i : Int)) i) (hi : i < 3) (hrow : Row w fa [2 * (i : Int) + 1, rI i]) :
    Calls Try.prog 10 #[ptr g, .int .i64 1, .slice (some ⟨fa, 0, none⟩) 2 2] w fun e w' => e = .returned (.tuple #[.int .i64 (4 * (i : Int) + 2), .int .i64 0]) ∧ ChI w0 w' g b rb rc (4 * (i : Int) + 4) (rI i) (5 * (i : Int) + 3) (i + 1) := by
  obtain ⟨L, h1, h2, h3⟩ := h.hp
  refine (make1 h1 rfl hrow (fun j hj => ?_) (by omega) (by omega) (by omega)).mono ?_
  · match j, hj with
    | 0, _ => exact .inl (odd3 i hi)
    | 1, _ => exact h2.thI (by omega) (Nat.le_refl _)
  · rintro e w' ⟨rfl, x, hk, hkd, hfs, hp, hf⟩
    refine ⟨rfl, ⟨_, by rw [show (4 * (i : Int) + 4) = 4 * (i : Int) + 2 + 2 from by omega]; exact hp, h2.step x hk hkd hfs, pos_more h3 (by rw [hk]; omega)⟩, ?_, h.low⟩
    exact h.below.trans (hf.below h.below.size (by intro k hk; simp at hk; rcases hk with rfl | rfl; exact h.low.1; exact h.low.2.1))
theorem ch_set {w0 w : World} {g b rb rc n i : Nat} {nx r u : Int} (h : ChI w0 w g b rb rc nx r u n) (hn : n ≤ 3) (hi : i < n) :
    Calls Try.prog 12 #[ptr g, .int .i64 0, .int .i64 (4 * (i : Int) + 2)] w fun e w' => e = .returned (.int .i64 0) ∧ ChI w0 w' g b rb rc nx (4 * (i : Int) + 2) u n := by
  obtain ⟨L, h1, h2, h3⟩ := h.hp
  refine (setroot_ok h1 (h2.th hn hi)).mono ?_
  rintro e w' ⟨rfl, hp, hf⟩
  refine ⟨rfl, ⟨L, hp, h2, h3⟩, ?_, h.low⟩
  exact h.below.trans (hf.below h.below.size (by intro k hk; simp at hk; rw [hk]; exact h.low.2.2))
theorem ch_junk {w0 w : World} {g b rb rc i fa : Nat} (h : ChI w0 w g b rb rc (4 * (i : Int) + 4) (4 * (i : Int) + 2) (5 * (i : Int) + 3) (i + 1)) (hi : i < 3) (hrow : Row w fa [4 * (i : Int) + 2]) :
    Calls Try.prog 10 #[ptr g, .int .i64 2, .slice (some ⟨fa, 0, none⟩) 1 1] w fun e w' => e = .returned (.tuple #[.int .i64 (4 * (i : Int) + 4), .int .i64 0]) ∧ ChI w0 w' g b rb rc (4 * ((i + 1 : Nat) : Int) + 2) (rI (i + 1)) (5 * ((i + 1 : Nat) : Int)) (i + 1) := by
  obtain ⟨L, h1, h2, h3⟩ := h.hp
  refine (make2 h1 rfl hrow (fun j hj => ?_) (by omega) (by omega) (by omega)).mono ?_
  · match j, hj with
    | 0, _ => exact h2.th (by omega) (by omega)
  · rintro e w' ⟨rfl, x, hk, hkd, hfs, hp, hf⟩
    refine ⟨rfl, ⟨_, by rw [show (4 * ((i + 1 : Nat) : Int) + 2) = 4 * (i : Int) + 4 + 2 from by omega, show (5 * ((i + 1 : Nat) : Int)) = 5 * (i : Int) + 3 + 2 from by omega]; exact hp, h2.more x, pos_more h3 (by rw [hk]; omega)⟩, ?_, h.low⟩
    exact h.below.trans (hf.below h.below.size (by intro k hk; simp at hk; rcases hk with rfl | rfl; exact h.low.1; exact h.low.2.1))
theorem ch_kind {w0 w : World} {g b rb rc n j : Nat} {nx r u : Int} (h : ChI w0 w g b rb rc nx r u n) (hj : j < n) :
    Calls Try.prog 13 #[ptr g, .int .i64 (4 * (j : Int) + 2)] w fun e w' => e = .returned (.int .i64 1) ∧ w' = w := by
  obtain ⟨L, h1, h2, h3⟩ := h.hp
  obtain ⟨o, ho, hk, hkd, hfs⟩ := h2 j hj
  have := kind_ok h1 ho
  rw [hk, hkd] at this
  exact this
theorem ch_kind0 {w0 w : World} {g b rb rc n : Nat} {nx r u : Int} (h : ChI w0 w g b rb rc nx r u n) :
    Calls Try.prog 13 #[ptr g, .int .i64 0] w fun e w' => e = .returned (.int .i64 0) ∧ Below w.heap.size w w' := by
  obtain ⟨L, h1, h2, h3⟩ := h.hp
  exact kind_no1 h1 (fun x hx e => by have := h3 x hx; omega)
theorem ch_field {w0 w : World} {g b rb rc n j : Nat} {nx r u : Int} (h : ChI w0 w g b rb rc nx r u n) (hj : j < n) (i : Nat) (hi : i < 2) :
    Calls Try.prog 14 #[ptr g, .int .i64 (4 * (j : Int) + 2), .int .i64 i] w fun e w' => e = .returned (.tuple #[.int .i64 ([2 * (j : Int) + 1, rI j].getD i 0), .int .i64 0]) ∧ w' = w := by
  obtain ⟨L, h1, h2, h3⟩ := h.hp
  obtain ⟨o, ho, hk, hkd, hfs⟩ := h2 j hj
  have := field_ok h1 ho (by rw [hkd]; decide) (i := i) (by rw [hfs]; exact hi)
  rw [hk, hfs] at this
  exact this
end Go.Proofs.Ytlghnldlkbgajaa.S
