/- HeapChain: each of its calls in one line; the list, turned. -/
import Derived.Test.YtlghnldlkbgajaaHCI
import Derived.Test.YtlghnldlkbgajaaDx8
namespace Go.Proofs.Ytlghnldlkbgajaa.S
open Go.RowKit Go.Proofs.YtlghnldlkbgajaaW.PrintWords Go.Proofs.YtlghnldlkbgajaaW.PrintLast Go.Proofs.YtlghnldlkbgajaaW.PrintMore
set_option linter.unusedVariables false
set_option linter.unusedSimpArgs false

/-- The heap of the chain, all of it behind w0. -/
def CW (w0 w : World) (g n m : Nat) (r : Int) : Prop := ∃ b R rc L h ks, HW w g b 0 R rc L h ∧ CI L h n m r ks ∧ (∀ k, Foot g b R L k → w0.heap.size ≤ k) ∧ Below w0.heap.size w0 w
/-- The same, with the pair that was just made. -/
def CWP (w0 w : World) (g n m : Nat) (k : Int) : Prop := ∃ r b R rc L h ks, HW w g b 0 R rc L h ∧ CI L h n m r ks ∧ (∀ k, Foot g b R L k → w0.heap.size ≤ k) ∧ Below w0.heap.size w0 w ∧ ∃ x1 ∈ L, x1.k = k ∧ x1.o.kind = 1 ∧ x1.o.fs = [2 * (n : Int) + 1, r]
/-- The chain, as it is read. -/
def RW (w0 w : World) (g n : Nat) (r : Int) : Prop := ∃ b R rc L h ks, HW w g b 0 R rc L h ∧ ChainK L n r ks ∧ Below w0.heap.size w0 w
theorem CW.below' {w0 w w' : World} {g n m : Nat} {r : Int} (h : CW w0 w g n m r) (hb : Below w.heap.size w w') : CW w0 w' g n m r := by
  obtain ⟨b, R, rc, L, h, ks, h1, h2, h3, h4⟩ := h
  exact ⟨b, R, rc, L, h, ks, h1.new hb, h2, h3, below_step h4 hb⟩
theorem CW.alloc {w0 w : World} {g n m : Nat} {r : Int} (h : CW w0 w g n m r) (o : Obj) : CW w0 (w.alloc o) g n m r := h.below' ((Below.refl _ _).alloc (Nat.le_refl _) _)
theorem CW.mono {w0 w : World} {g n m m' : Nat} {r : Int} (h : CW w0 w g n m r) (hm : m ≤ m') : CW w0 w g n m' r := by
  obtain ⟨b, R, rc, L, h, ks, h1, h2, h3⟩ := h
  exact ⟨b, R, rc, L, h, ks, h1, h2.mono hm, h3⟩
theorem CW.read {w0 w : World} {g n m : Nat} {r : Int} (h : CW w0 w g n m r) : RW w0 w g n r := by
  obtain ⟨b, R, rc, L, h, ks, h1, h2, h3, h4⟩ := h
  exact ⟨b, R, rc, L, h, ks, h1, h2.chain, h4⟩
theorem RW.below' {w0 w w' : World} {g n : Nat} {r : Int} (h : RW w0 w g n r) (hb : Below w.heap.size w w') : RW w0 w' g n r := by
  obtain ⟨b, R, rc, L, h, ks, h1, h2, h4⟩ := h
  exact ⟨b, R, rc, L, h, ks, h1.new hb, h2, below_step h4 hb⟩
theorem RW.bel {w0 w : World} {g n : Nat} {r : Int} (h : RW w0 w g n r) : Below w0.heap.size w0 w := by
  obtain ⟨b, R, rc, L, h, ks, h1, h2, h4⟩ := h
  exact h4
theorem cw_start (w : World) : Calls Try.prog 8 #[.int .i64 32, .int .i64 1000] w fun e w' => ∃ g b, e = .returned (.tuple #[ptr g, .int .i64 0]) ∧ HW w' g b 0 none 0 [] ⟨2, [], 32, 1000, 0, 0, 0, 0, false⟩ ∧ w.heap.size ≤ g ∧ w.heap.size ≤ b ∧ Below w.heap.size w w' := new_calls w
theorem cw_push {w0 w : World} {g b : Nat} (H : HW w g b 0 none 0 [] ⟨2, [], 32, 1000, 0, 0, 0, 0, false⟩) (hg : w0.heap.size ≤ g) (hb : w0.heap.size ≤ b) (hbl : Below w0.heap.size w0 w) :
    Calls Try.prog 9 #[ptr g, .int .i64 0] w fun e w' => e = .returned (.int .i64 0) ∧ CW w0 w' g 0 0 0 := by
  refine (push_calls H (x := 0) rfl (by decide)).mono ?_
  rintro e w' ⟨rfl, R', rc', hw, hf, hk⟩
  refine ⟨rfl, b, R', rc', [], _, [], hw, CI.start, fun k hkk => ?_, hbl.trans (hf.below hbl.size (fun k hk => ?_))⟩
  · rcases hk k hkk with h | h
    · rcases h with rfl | rfl | h | ⟨x, hx, -⟩
      · exact hg
      · exact hb
      · cases h
      · cases hx
    · have := hbl.size; omega
  · rcases hk with rfl | rfl | h | ⟨x, hx, -⟩
    · exact hg
    · exact hb
    · cases h
    · cases hx
theorem cw_root {w0 w : World} {g n m : Nat} {r : Int} (h : CW w0 w g n m r) : Calls Try.prog 11 #[ptr g, .int .i64 0] w fun e w' => e = .returned (.int .i64 r) ∧ w' = w := by
  obtain ⟨b, R, rc, L, h, ks, h1, h2, h3, h4⟩ := h
  have hl : h.roots.length = 1 := by rw [h2.roots]; rfl
  have := root_calls h1 (i := 0) (by omega) (by omega)
  rw [h2.roots] at this
  exact this
theorem cw_pair {w0 w : World} {g n m fa : Nat} {r : Int} (hc : CW w0 w g n m r) (hn : n ≤ 300) (hm : m ≤ 90000) (hrow : Row w fa [2 * (n : Int) + 1, r]) :
    Calls Try.prog 10 #[ptr g, .int .i64 1, .slice (some ⟨fa, 0, none⟩) 2 2] w fun e w' => ∃ k, e = .returned (.tuple #[.int .i64 k, .int .i64 0]) ∧ CWP w0 w' g n (m + 2) k := by
  obtain ⟨b, R, rc, L, h, ks, h1, h2, h3, h4⟩ := hc
  have hnx := h2.nx
  have hh := h2.has
  refine (make_pair h1 (h2.sm hn (by omega)) hrow (by simp) rfl (fun f hf => ?_) (by rw [h2.roots]; show (1 : Nat) ≤ 100000; omega) (by omega) (by omega)).mono ?_
  · simp at hf
    rcases hf with rfl | rfl
    · unfold thereB
      rw [decide_eq_true (show (2 * (n : Int) + 1) % 2 = 1 by omega)]
      simp
    · exact h2.there
  · rintro e w' ⟨x, hx, rfl, b', R', rc', hp, hf, hk⟩
    have hr0 : r ≠ 2 * (n : Int) + 1 := by
      rcases h2.chain.root with e | e
      · omega
      · obtain ⟨o, ho, e2, -⟩ := h2.chain.mem r e
        have := (h2.low o ho).2.2
        omega
    obtain ⟨r1, ks1, x1, p1, p2, p3, p4, p5, p6⟩ := h2.place hn x (by rw [hx]; intro f hf; simp at hf; rcases hf with rfl | rfl; exact .inl (by omega); exact .inr rfl) (by rw [hx]; simp) (by rw [hx]) (by rw [hx])
    refine ⟨(plO L h x).1, by rw [p1], r1, b', R', rc', _, _, ks1, hp, p5, fun k hkk => (hk k hkk).elim (h3 k) (fun e => Nat.le_trans h4.size e), h4.trans (hf.below h4.size (fun k hk => h3 k hk)), x1, p2, p3, by rw [p4, hx], ?_⟩
    rw [p4, hx]
    simp [Ne.symm hr0]
theorem cw_set {w0 w : World} {g n m : Nat} {k : Int} (hc : CWP w0 w g n m k) : Calls Try.prog 12 #[ptr g, .int .i64 0, .int .i64 k] w fun e w' => e = .returned (.int .i64 0) ∧ CW w0 w' g (n + 1) m k := by
  obtain ⟨r, b, R, rc, L, h, ks, h1, h2, h3, h4, x1, hx, hk, hkd, hf⟩ := hc
  have hl : h.roots.length = 1 := by rw [h2.roots]; rfl
  have hth : thereB L k = true := by
    unfold thereB
    rw [show (L.any fun o => decide (o.k = k)) = true from List.any_eq_true.2 ⟨x1, hx, by simpa using hk⟩]
    simp
  refine (setroot_calls h1 (i := 0) (by omega) hth).mono ?_
  rintro e w' ⟨rfl, hp, hfr⟩
  have hci := h2.more hx hkd hf
  rw [hk] at hci
  exact ⟨rfl, b, R, rc, L, _, _, hp, hci, h3, h4.trans (hfr.below h4.size (fun k hk => h3 k hk))⟩
theorem cw_junk {w0 w : World} {g n m fa : Nat} {r : Int} (hc : CW w0 w g n m r) (hn : n ≤ 300) (hm : m ≤ 90000) (hrow : Row w fa [r]) :
    Calls Try.prog 10 #[ptr g, .int .i64 2, .slice (some ⟨fa, 0, none⟩) 1 1] w fun e w' => ∃ k, e = .returned (.tuple #[.int .i64 k, .int .i64 0]) ∧ ∃ r1, CW w0 w' g n (m + 2) r1 := by
  obtain ⟨b, R, rc, L, h, ks, h1, h2, h3, h4⟩ := hc
  have hnx := h2.nx
  have hh := h2.has
  refine (make_vec h1 (h2.sm hn (by omega)) hrow (by simp) (by simp) (fun f hf => ?_) (by rw [h2.roots]; show (1 : Nat) ≤ 100000; omega) (by omega) (by omega)).mono ?_
  · simp at hf
    rw [hf]
    exact h2.there
  · rintro e w' ⟨x, hx, rfl, b', R', rc', hp, hf, hk⟩
    obtain ⟨r1, ks1, x1, p1, p2, p3, p4, p5, p6⟩ := h2.place hn x (by rw [hx]; intro f hf; simp at hf; exact .inr hf) (by rw [hx]; simp) (by rw [hx]) (by rw [hx])
    exact ⟨(plO L h x).1, by rw [p1], r1, b', R', rc', _, _, ks1, hp, p5, fun k hkk => (hk k hkk).elim (h3 k) (fun e => Nat.le_trans h4.size e), h4.trans (hf.below h4.size (fun k hk => h3 k hk))⟩
theorem rw_kind {w0 w : World} {g n : Nat} {r : Int} (hc : RW w0 w g (n + 1) r) : Calls Try.prog 13 #[ptr g, .int .i64 r] w fun e w' => e = .returned (.int .i64 1) ∧ w' = w := by
  obtain ⟨b, R, rc, L, h, ks, h1, ⟨o, ho, e1, e2, r', ks', e3, e4, e5⟩, h4⟩ := hc
  have := kind_any h1 ho
  rw [e1, e2] at this
  exact this
theorem rw_kind0 {w0 w : World} {g : Nat} {r : Int} (hc : RW w0 w g 0 r) : Calls Try.prog 13 #[ptr g, .int .i64 r] w fun e w' => e = .returned (.int .i64 0) ∧ Below w.heap.size w w' := by
  obtain ⟨b, R, rc, L, h, ks, h1, ⟨e1, -⟩, h4⟩ := hc
  rw [e1]
  exact kind_none h1 (fun x hx e => by have := h1.low x hx; omega)
theorem rw_f0 {w0 w : World} {g n : Nat} {r : Int} (hc : RW w0 w g (n + 1) r) : Calls Try.prog 14 #[ptr g, .int .i64 r, .int .i64 0] w fun e w' => e = .returned (.tuple #[.int .i64 (2 * (n : Int) + 1), .int .i64 0]) ∧ w' = w := by
  obtain ⟨b, R, rc, L, h, ks, h1, ⟨o, ho, e1, e2, r', ks', e3, e4, e5⟩, h4⟩ := hc
  have := field_any h1 ho (by rw [e2]; decide) (i := 0) (by rw [e3]; simp)
  rw [e1, e3] at this
  exact this
theorem rw_f1 {w0 w : World} {g n : Nat} {r : Int} (hc : RW w0 w g (n + 1) r) : Calls Try.prog 14 #[ptr g, .int .i64 r, .int .i64 1] w fun e w' => ∃ r', e = .returned (.tuple #[.int .i64 r', .int .i64 0]) ∧ w' = w ∧ RW w0 w g n r' := by
  obtain ⟨b, R, rc, L, h, ks, h1, ⟨o, ho, e1, e2, r', ks', e3, e4, e5⟩, h4⟩ := hc
  have := field_any h1 ho (by rw [e2]; decide) (i := 1) (by rw [e3]; simp)
  rw [e1, e3] at this
  exact this.mono fun e w' ⟨p1, p2⟩ => ⟨r', p1, p2, b, R, rc, L, h, ks', h1, e5, h4⟩
theorem roww2 (w : World) (a c : Int) : Row (w.alloc (.cells #[.int .i64 a, .int .i64 c] 28)) w.heap.size [a, c] := ⟨_, heap_alloc_new w _, fun i hi => by
  rcases i with _ | _ | i
  · rfl
  · rfl
  · exact absurd hi (by simp)⟩
theorem roww1 (w : World) (a : Int) : Row (w.alloc (.cells #[.int .i64 a] 28)) w.heap.size [a] := ⟨_, heap_alloc_new w _, fun i hi => by
  rcases i with _ | i
  · rfl
  · exact absurd hi (by simp)⟩
/-! ### The list -/
def oddL (n : Nat) : List Int := (List.range n).map fun i : Nat => 2 * (i : Int) + 1
theorem oddL_len (n : Nat) : (oddL n).length = n := by unfold oddL; simp
theorem oddL_at {n i : Nat} (hi : i < n) : (oddL n)[i]? = some (2 * (i : Int) + 1) := by unfold oddL; simp [hi]
theorem got_more {n k : Nat} (hk : k < n) : ((oddL n).drop (k + 1)).reverse ++ [2 * (k : Int) + 1] = ((oddL n).drop k).reverse := by
  have h : (oddL n).drop k = (2 * (k : Int) + 1) :: (oddL n).drop (k + 1) := by
    rw [List.drop_eq_getElem_cons (by rw [oddL_len]; exact hk)]
    congr 1
    have := oddL_at hk
    rw [List.getElem?_eq_getElem (by rw [oddL_len]; exact hk)] at this
    exact Option.some.inj this
  rw [h, List.reverse_cons]
theorem rev_from (L : List Int) (hL : L.length ≤ 1000) : ∀ (k i j : Nat) (x : List Int), x.length = L.length → j < x.length → j + 1 ≤ k + i → 0 < k →
    ∃ y, D.api_Word_15.l0 k x (i : Int) (j : Int) = some y ∧ y.length = x.length ∧ ∀ t, t < x.length → y[t]? = if i ≤ t ∧ t ≤ j then x[i + j - t]? else x[t]?
  | 0, i, j, x, hx, hj, hk, h0 => by omega
  | k + 1, i, j, x, hx, hj, hk, h0 => by
    unfold D.api_Word_15.l0
    by_cases hij : i < j
    · rw [if_pos (by omega), if_pos (by omega), if_pos (by omega), if_pos (by omega), if_pos (by omega)]
      have e1 : wrap64 ((i : Int) + 1) = ((i + 1 : Nat) : Int) := by unfold wrap64; omega
      have e2 : wrap64 ((j : Int) - 1) = ((j - 1 : Nat) : Int) := by unfold wrap64; omega
      rw [e1, e2, Int.toNat_natCast, Int.toNat_natCast]
      have hl : ((x.set i (rd x (j : Int))).set j (rd x (i : Int))).length = x.length := by simp
      obtain ⟨y, h1, h2, h3⟩ := rev_from L hL k (i + 1) (j - 1) ((x.set i (rd x (j : Int))).set j (rd x (i : Int))) (by rw [hl, hx]) (by rw [hl]; omega) (by omega) (by omega)
      refine ⟨y, h1, by rw [h2, hl], fun t ht => ?_⟩
      rw [h3 t (by rw [hl]; exact ht)]
      have hrj : rd x (j : Int) = x[j]'hj := by simp [rd, hj]
      have hri : rd x (i : Int) = x[i]'(by omega) := by simp [rd, show i < x.length by omega]
      rw [hrj, hri]
      by_cases c1 : i + 1 ≤ t ∧ t ≤ j - 1
      · rw [if_pos c1, if_pos (by omega), show i + 1 + (j - 1) - t = i + j - t from by omega]
        rw [List.getElem?_set, if_neg (by omega), List.getElem?_set, if_neg (by omega)]
      · rw [if_neg c1]
        by_cases c2 : t = i
        · subst c2
          rw [if_pos (by omega), List.getElem?_set, if_neg (by omega), List.getElem?_set, if_pos rfl, if_pos (by omega), show t + j - t = j from by omega, List.getElem?_eq_getElem hj]
        · by_cases c3 : t = j
          · subst c3
            rw [if_pos (by omega), List.getElem?_set, if_pos rfl, if_pos (by simp; omega), show i + t - t = i from by omega, List.getElem?_eq_getElem (by omega)]
          · rw [if_neg (by omega), List.getElem?_set, if_neg (by omega), List.getElem?_set, if_neg (by omega)]
    · rw [if_neg (by omega)]
      refine ⟨x, rfl, rfl, fun t ht => ?_⟩
      by_cases c : i ≤ t ∧ t ≤ j
      · rw [if_pos c, show i + j - t = t from by omega]
      · rw [if_neg c]
theorem turned_all (L : List Int) (hL : L.length ≤ 1000) : D.api_Word_15.f (L.length + 1) L.reverse = some L := by
  unfold D.api_Word_15.f
  rw [List.length_reverse]
  by_cases h0 : L.length = 0
  · rw [h0]
    have : L = [] := List.length_eq_zero_iff.1 h0
    subst this
    rw [show wrap64 (((0 : Nat) : Int) - 1) = -1 from by unfold wrap64; omega]
    unfold D.api_Word_15.l0
    rw [if_neg (by decide)]
    rfl
  · rw [show wrap64 ((L.length : Int) - 1) = ((L.length - 1 : Nat) : Int) from by unfold wrap64; omega]
    obtain ⟨y, h1, h2, h3⟩ := rev_from L hL (L.length + 1) 0 (L.length - 1) L.reverse (by simp) (by simp; omega) (by omega) (by omega)
    have h1 : D.api_Word_15.l0 (L.length + 1) L.reverse 0 ((L.length - 1 : Nat) : Int) = some y := h1
    rw [h1]
    congr 1
    apply List.ext_getElem?
    intro t
    by_cases ht : t < L.length
    · rw [h3 t (by simpa using ht), if_pos (by omega), List.getElem?_reverse (by omega)]
      congr 1
      omega
    · rw [List.getElem?_eq_none (by rw [h2]; simp; omega), List.getElem?_eq_none (by omega)]
end Go.Proofs.Ytlghnldlkbgajaa.S
