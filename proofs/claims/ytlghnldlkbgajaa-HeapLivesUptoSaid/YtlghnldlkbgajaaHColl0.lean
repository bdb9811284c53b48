
/- heap: what the walk of a collection keeps. -/
import Derived.Test.YtlghnldlkbgajaaHSort
namespace Go.Proofs.Ytlghnldlkbgajaa.S
open Go.RowKit Go.Proofs.YtlghnldlkbgajaaW.PrintWords Go.Proofs.YtlghnldlkbgajaaW.PrintLast Go.Proofs.YtlghnldlkbgajaaW.PrintMore
set_option linter.unusedVariables false
set_option linter.unusedSimpArgs false

theorem MS.start {w : World} {g b B : Nat} {R : Option Addr} {rc : Nat} {L : List OW} {h : HH} {mv tb : Nat} {all : Bool} (H : HW w g b B R rc L h)
    (hm : w.heap[mv]? = some (.cells #[.pointer (some ⟨g, 0, none⟩), .map (some tb), .slice none 0 0, .bool all] 99 (0, 0))) (ht : MapIs w tb []) (hne : tb ≠ b) : MS w w g b B R rc L h mv tb all [] [] :=
  ⟨H, ⟨none, 0, hm, World.ownsRow_nil _ _ _ _⟩, ht, ⟨blk_lt hm, by obtain ⟨es, cl, h1, _⟩ := ht; exact blk_lt h1, hne⟩, fun k hk => H.foot_lt hk, FrP.refl _ _⟩
theorem row_at {w : World} {B n : Nat} {v : Value} {l : List Int} (h : w.ownsRow B 28 1 v n (l.map (Value.int .i64))) : ∃ A c, v = .slice A n c ∧ ∀ i, i < n → ∃ q cur, A = some ⟨q, 0, none⟩ ∧ B ≤ q ∧ w.heap[q]? = some (.cells cur 28 (0, 0)) ∧ cur[i]? = some (.int .i64 (l.getD i 0)) := by
  have hl : l.length = n := by have := h.1; simpa using this
  rcases h.2 with ⟨rfl, rfl⟩ | ⟨q, cap, cur, h1, h2, h3, h4, h5, h6, h7⟩
  · exact ⟨_, _, rfl, fun i hi => by omega⟩
  · refine ⟨_, _, h1, fun i hi => ⟨q, cur, rfl, h2, h3, ?_⟩⟩
    have h8 : (cur.toList.take (n * 1))[i]? = (l.map (Value.int .i64))[i]? := congrArg (fun l : List Value => l[i]?) h7
    rw [List.getElem?_take, if_pos (by omega)] at h8
    rw [← Array.getElem?_toList, h8]
    simp [List.getD, List.getElem?_eq_getElem (show i < l.length by omega)]
def isOld (L : List OW) (k : Int) : Bool := (getO L k).o.old
theorem filter_step (p : Int → Bool) (l : List Int) {j : Nat} (hj : j < l.length) : (l.take (j + 1)).filter p = (l.take j).filter p ++ (if p (l.getD j 0) then [l.getD j 0] else []) := by
  rw [List.take_add_one, List.filter_append, List.getElem?_eq_getElem hj]
  simp only [Option.toList_some, List.getD, List.getElem?_eq_getElem hj, Option.getD_some, List.filter_cons, List.filter_nil]
theorem take_step (l : List Int) {j : Nat} (hj : j < l.length) : l.take (j + 1) = l.take j ++ [l.getD j 0] := by
  rw [List.take_add_one, List.getElem?_eq_getElem hj]
  simp [List.getD, List.getElem?_eq_getElem hj]
theorem mvAll_snoc (L : List OW) (s : Mv) (l : List Int) (x : Int) : mvAll L s (l ++ [x]) = (mvF L (mvAll L s l) x).2 := by unfold mvAll; rw [List.foldl_append]; rfl
def partL (tt : List (Int × Int)) (j : Nat) (l : List Int) : List Int := (l.take j).map (ren tt) ++ l.drop j
theorem partL_len (tt : List (Int × Int)) (j : Nat) (l : List Int) : (partL tt j l).length = l.length := part_len tt j ⟨0, l, ⟨#[]⟩, false, false⟩
theorem partL_get (tt : List (Int × Int)) (l : List Int) {j : Nat} (hj : j < l.length) : (partL tt j l).getD j 0 = l.getD j 0 := part_get tt ⟨0, l, ⟨#[]⟩, false, false⟩ hj
theorem partL_succ (tt : List (Int × Int)) (l : List Int) {j : Nat} (hj : j < l.length) : partL tt (j + 1) l = (partL tt j l).set j (ren tt (l.getD j 0)) := congrArg PO.fs (part_succ tt ⟨0, l, ⟨#[]⟩, false, false⟩ hj)
theorem partL_none (tt : List (Int × Int)) (l : List Int) {j : Nat} (hj : j < l.length) (h : toGet tt (l.getD j 0) = none) : partL tt (j + 1) l = partL tt j l := congrArg PO.fs (part_none tt ⟨0, l, ⟨#[]⟩, false, false⟩ hj h)
theorem partL_all (tt : List (Int × Int)) (l : List Int) : partL tt l.length l = l.map (ren tt) := by unfold partL; simp
theorem foot_upd {g b : Nat} {R : Option Addr} {L : List OW} {k : Int} {f : PO → PO} (hf : ∀ o, (f o).fs.length = o.fs.length) {j : Nat} (h : Foot g b R (upd L k f) j) : Foot g b R L j := by
  rcases h with h | h | h | ⟨x, hx, h⟩
  · exact .inl h
  · exact .inr (.inl h)
  · exact .inr (.inr (.inl h))
  · obtain ⟨y, hy, e1, e2, e3, e4, e5, h1⟩ := upd_mem hx
    refine .inr (.inr (.inr ⟨y, hy, ?_⟩))
    rcases h with h | ⟨hn, h⟩
    · exact .inl (by rw [h, e2])
    · refine .inr ⟨?_, by rw [h, e5]⟩
      rcases h1 with ⟨h1, h2⟩ | ⟨h1, rfl⟩
      · rw [h2] at hn
        intro e
        exact hn (List.length_eq_zero_iff.1 (by rw [hf, e]; rfl))
      · exact hn
/-- A collection behind the marking: the heap, the mover, its map, what is kept. -/
structure CS (F : Nat → Prop) (wE w : World) (g b B : Nat) (R : Option Addr) (rc : Nat) (L : List OW) (h : HH) (mv tb kb : Nat) (all : Bool) (Q : Option Addr) (qc : Nat) (tt : List (Int × Int)) (q : List Int) (kept : List (Int × Value)) : Prop where
  hw : HW w g b B R rc L h
  qs : w.heap[mv]? = some (.cells #[.pointer (some ⟨g, 0, none⟩), .map (some tb), .slice Q q.length qc, .bool all] 99 (0, 0)) ∧ w.ownsRow wE.heap.size 28 1 (.slice Q q.length qc) q.length (q.map (Value.int .i64))
  tm : MapIs w tb (toV tt)
  kp : MapIs w kb kept
  ge : wE.heap.size ≤ mv ∧ wE.heap.size ≤ tb ∧ wE.heap.size ≤ kb ∧ tb ≠ kb
  sub : ∀ k, Foot g b R L k → F k
  lt : ∀ k, F k → k < wE.heap.size
  fr : FrP F wE w
section
variable {F : Nat → Prop} {wE w w' : World} {g b B : Nat} {R : Option Addr} {rc : Nat} {L : List OW} {h : HH} {mv tb kb : Nat} {all : Bool} {Q : Option Addr} {qc : Nat} {tt : List (Int × Int)} {q : List Int} {kept : List (Int × Value)}
theorem CS.go {L' : List OW} {h' : HH} {T : Nat → Prop} (S : CS F wE w g b B R rc L h mv tb kb all Q qc tt q kept) (H' : HW w' g b B R rc L' h') (hf : FrP T w w') (hT : ∀ k, T k → F k) (hF : ∀ k, Foot g b R L' k → F k) : CS F wE w' g b B R rc L' h' mv tb kb all Q qc tt q kept := by
  obtain ⟨hm, hq⟩ := S.qs
  obtain ⟨g1, g2, g3, g4⟩ := S.ge
  have hn : ∀ k, wE.heap.size ≤ k → ¬ T k := fun k hk ht => by have := S.lt k (hT k ht); omega
  exact ⟨H', ⟨hf.get hm (hn _ g1), own_frp hq hf (fun k hk => hn _ (hq.lt k hk).1)⟩, S.tm.frp hf (hn _ g2), S.kp.frp hf (hn _ g3), S.ge, hF, S.lt, S.fr.trans (hf.mono (fun k _ hk => hT k hk))⟩
/-- A step that only makes memory, or nothing. -/
theorem CS.quiet (S : CS F wE w g b B R rc L h mv tb kb all Q qc tt q kept) (hf : Fr [] w w') : CS F wE w' g b B R rc L h mv tb kb all Q qc tt q kept :=
  S.go (S.hw.fr0 hf) (FrP.ofFr hf) (fun k hk => by simp at hk) S.sub
theorem CS.m1 (S : CS F wE w g b B R rc L h mv tb kb all Q qc tt q kept) : w.cell? ⟨mv, 1, none⟩ = some (.map (some tb)) := by
  obtain ⟨hm, hq⟩ := S.qs
  exact (blk_cell hm 1).trans rfl
theorem CS.queue (S : CS F wE w g b B R rc L h mv tb kb all Q qc tt q kept) : w.cell? ⟨mv, 2, none⟩ = some (.slice Q q.length qc) := by
  obtain ⟨hm, hq⟩ := S.qs
  exact (blk_cell hm 2).trans rfl
theorem CS.queueAt (S : CS F wE w g b B R rc L h mv tb kb all Q qc tt q kept) {i : Nat} (hi : i < q.length) : ∃ qb, Q = some ⟨qb, 0, none⟩ ∧ w.cell? ⟨qb, i, none⟩ = some (.int .i64 (q.getD i 0)) := by
  obtain ⟨A, c, h1, h2⟩ := row_at S.qs.2
  obtain ⟨qb, cur, hA, -, h3, h4⟩ := h2 i hi
  simp only [Value.slice.injEq] at h1
  exact ⟨qb, h1.1.trans hA, (blk_cell h3 i).trans h4⟩
/-- Something is put among what is kept. -/
theorem CS.put {kept' : List (Int × Value)} (S : CS F wE w g b B R rc L h mv tb kb all Q qc tt q kept) (hk : MapIs w' kb kept') (hb : Fr [kb] w w') : CS F wE w' g b B R rc L h mv tb kb all Q qc tt q kept' := by
  obtain ⟨hm, hq⟩ := S.qs
  obtain ⟨g1, g2, g3, g4⟩ := S.ge
  have hmk : mv ≠ kb := fun e => by rw [e] at hm; exact S.kp.norow _ _ _ hm
  refine ⟨S.hw.fr hb (fun k hk => ?_), ⟨hb.get hm (by simpa using hmk), own_fr hq hb (fun k hkk => ?_)⟩, S.tm.fr hb (by simpa using g4), hk, S.ge, S.sub, S.lt, ?_⟩
  · have := S.lt k (S.sub k hk)
    simp; omega
  · rcases hq.2 with ⟨h1, -⟩ | ⟨qb, cap, cur, h1, h2, h3, h4⟩
    · rw [h1] at hkk; cases hkk
    · rw [h1] at hkk
      obtain rfl : qb = k := by simpa [Value.ownBlock] using hkk
      intro e
      have e : qb = kb := by simpa using e
      rw [e] at h3
      exact S.kp.norow _ _ _ h3
  · exact S.fr.then ((FrP.ofFr hb).mono (fun k _ hk => .inr (by simp at hk; omega)))
theorem CS.look (S : CS F wE w g b B R rc L h mv tb kb all Q qc tt q kept) (x : Int) (c : Bool) : (Instr.lookup 85 (.map (some tb)) (.int .i64 x) c).run Try.prog w = .ok (if c then .tuple #[((toGet tt x).map (Value.int .i64)).getD (.int .i64 0), .bool (toGet tt x).isSome] else ((toGet tt x).map (Value.int .i64)).getD (.int .i64 0)) w := by
  have := map_lookup (P := Try.prog) Try.underlying85 Try.underlying28 (Try.zeroValue28 w) S.tm x c
  rw [toV_get] at this
  simpa using this
/-- Behind the mover's run: the map for what is kept is made, the counts are nought. -/
theorem CS.start {w0 : World} {h' : HH} (S : MS w0 w g b B R rc L h mv tb all tt q) (hE : wE.heap.size ≤ mv ∧ wE.heap.size ≤ tb) (h0 : wE.heap.size ≤ w0.heap.size) (hlt : ∀ k, Foot g b R L k → k < wE.heap.size) (hfr : FrP (Foot g b R L) wE w0)
    (H' : HW w' g b B R rc L h') (hf : FrP (fun k => k = g ∨ w.heap.size ≤ k) w w') (hk : MapIs w' w.heap.size []) : ∃ Q qc, CS (Foot g b R L) wE w' g b B R rc L h' mv tb w.heap.size all Q qc tt q [] := by
  obtain ⟨Q, qc, hm, hq⟩ := S.qs
  have h2 := S.fr.size
  have ht : tb < w.heap.size := by have := S.ge.2.1; omega
  have hmw : mv < w.heap.size := blk_lt hm
  have fg : Foot g b R L g := .inl rfl
  have hm' : ¬ (mv = g ∨ w.heap.size ≤ mv) := fun e => e.elim S.ne_mg (fun e => by omega)
  have ht' : ¬ (tb = g ∨ w.heap.size ≤ tb) := fun e => e.elim S.ne_tg (fun e => by omega)
  refine ⟨Q, qc, H', ⟨hf.get hm hm', own_frp (T := fun k => k = g ∨ w.heap.size ≤ k) ?_ hf (fun k hk => ?_)⟩, S.tm.frp hf ht', hk, ⟨hE.1, hE.2, by omega, by omega⟩, fun _ h => h, hlt, ?_⟩
  · refine ⟨hq.1, ?_⟩
    rcases hq.2 with h | ⟨qb, cap, cur, h1, h2, h3⟩
    · exact .inl h
    · exact .inr ⟨qb, cap, cur, h1, by omega, h3⟩
  · have h3 := hq.lt k hk
    have h4 := S.lt g fg
    intro e
    rcases e with e | e
    · omega
    · omega
  · refine (hfr.then (S.fr.mono (fun k _ hk => ?_))).then (hf.mono (fun k _ hk => ?_))
    · rcases hk with rfl | rfl | rfl
      · exact .inl fg
      · exact .inr hE.1
      · exact .inr hE.2
    · rcases hk with rfl | hk
      · exact .inl fg
      · exact .inr (by omega)
end
def sumC (L : List OW) (l : List Int) : Int := (l.map fun k => (getO L k).o.cells).sum
theorem sumC_snoc (L : List OW) (l : List Int) (k : Int) : sumC L (l ++ [k]) = sumC L l + (getO L k).o.cells := by unfold sumC; simp
theorem sumC_le (L : List OW) (M : Int) (hM : ∀ x ∈ L, 0 ≤ x.o.cells ∧ x.o.cells ≤ M) (hp : L.Pairwise fun x y => x.k ≠ y.k) : ∀ (l : List Int), (∀ k ∈ l, ∃ x ∈ L, x.k = k) → 0 ≤ sumC L l ∧ sumC L l ≤ M * l.length
  | [], _ => by simp [sumC]
  | k :: l, h => by
    obtain ⟨x, hx, e⟩ := h k (by simp)
    have h1 := sumC_le L M hM hp l (fun k hk => h k (by simp [hk]))
    have h2 := hM x hx
    have : sumC L (k :: l) = (getO L k).o.cells + sumC L l := by unfold sumC; simp
    rw [this, ← e, getO_of hp hx, List.length_cons, Int.natCast_succ, Int.mul_add, Int.mul_one]
    omega
/-- What a collection makes. -/
def collMv (L : List OW) (h : HH) (all : Bool) : Mv := runF L all (L.length + 1) 0 (mvAll L (if all then ⟨h.nx, [], []⟩ else mvAll L ⟨h.nx, [], []⟩ ((sortI (L.map (·.k))).filter (isOld L))) h.roots)
def collHH (L : List OW) (h : HH) (all : Bool) : HH :=
  { h with nx := (collMv L h all).nx, roots := h.roots.map (ren (collMv L h all).tt), has0 := 0, has1 := sumC L (collMv L h all).q, minor := if all then h.minor else h.minor + 1, major := if all then h.major + 1 else h.major }
def collL (L : List OW) (h : HH) (all : Bool) : List OW := newL L h.nx (collMv L h all).tt (collMv L h all).q
/-- The bounds of a heap. -/
structure Bds (L : List OW) (h : HH) : Prop where
  len : L.length ≤ 1000000
  nx : 0 < h.nx ∧ h.nx % 2 = 0 ∧ h.nx + 2 * L.length ≤ 1000000000000
  fs : ∀ o ∈ L, o.o.fs.length ≤ 1000000
  tx : ∀ o ∈ L, o.o.text.size ≤ 1000000
  roots : h.roots.length ≤ 1000000
  mm : 0 ≤ h.minor ∧ h.minor ≤ 1000000000000 ∧ 0 ≤ h.major ∧ h.major ≤ 1000000000000
end Go.Proofs.Ytlghnldlkbgajaa.S
