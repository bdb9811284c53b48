/- heap: the document's heap in memory. heap: the document's heap: find, has, There, text, cells, sum, Roots, Kind, String, Len. heap: the document's heap: There, text, cells, sum, Roots, Kind, String, Field, Len, Root. heap: the document's heap: Kind, String, Len, Field, Root, There. -/
import Derived.Test.YtlghnldlkbgajaaHMk5
import Derived.LaidEqlPtr
namespace Go.Proofs.Ytlghnldlkbgajaa.S
open Go.RowKit Go.Proofs.YtlghnldlkbgajaaW.PrintWords Go.Proofs.YtlghnldlkbgajaaW.PrintLast Go.Proofs.YtlghnldlkbgajaaW.PrintMore
set_option linter.unusedVariables false
set_option linter.unusedSimpArgs false

/-- What the document's heap says beside its objects. -/
structure RS where
  young : Int
  old : Int
  roots : List Int
  nx : Int
  minor : Int
  major : Int
  spent : Bool
def rsObj (V : Value) (R : Option Addr) (rc : Nat) (h : RS) : Obj := .cells #[.int .i64 h.young, .int .i64 h.old, V, .slice R h.roots.length rc, .int .i64 h.nx, .int .i64 h.minor, .int .i64 h.major, .bool h.spent] 83 (0, 0)
def OW.robj (x : OW) : Obj := .cells #[.int .i64 x.k, .int .i64 x.o.kind, .slice x.A x.o.fs.length x.c, .string x.o.text, .bool x.o.old, .bool x.o.noted] 107 (0, 0)
/-- Its block, its roots, and some objects. -/
structure HQ (w : World) (g : Nat) (V : Value) (R : Option Addr) (rc : Nat) (S : List OW) (h : RS) : Prop where
  hp : w.heap[g]? = some (rsObj V R rc h)
  rt : w.ownsRow 0 28 1 (.slice R h.roots.length rc) h.roots.length (h.roots.map (Value.int .i64))
  ob : ∀ x ∈ S, w.heap[x.t]? = some x.robj
  row : ∀ x ∈ S, x.rowOk w
  one : S.Pairwise fun x y => x.t ≠ y.t ∧ (x.o.fs ≠ [] → y.o.fs ≠ [] → x.fb ≠ y.fb)
  far : ∀ x ∈ S, ∀ rb : Nat, R = some ⟨rb, 0, none⟩ → x.o.fs ≠ [] → x.fb ≠ rb
def FootQ (g : Nat) (R : Option Addr) (S : List OW) (k : Nat) : Prop := k = g ∨ R = some ⟨k, 0, none⟩ ∨ ∃ x ∈ S, k = x.t ∨ (x.o.fs ≠ [] ∧ k = x.fb)
/-- A slice of pointers to objects. -/
def Ptrs (w : World) (V : Value) (S : List OW) : Prop := w.ownsRow 0 105 1 V S.length (S.map fun x => ptr x.t)
section
variable {w w' : World} {g rc : Nat} {V : Value} {R : Option Addr} {S : List OW} {h : RS}
theorem HQ.rtBlock (H : HQ w g V R rc S h) {k : Nat} (hk : (Value.slice R h.roots.length rc).ownBlock = some k) : R = some ⟨k, 0, none⟩ ∧ ∃ cur, w.heap[k]? = some (.cells cur 28 (0, 0)) := by
  rcases H.rt.2 with ⟨h1, -⟩ | ⟨q, cap, cur, h1, -, h3, -⟩
  · rw [h1] at hk; cases hk
  · rw [h1] at hk
    obtain rfl : q = k := by simpa [Value.ownBlock] using hk
    simp only [Value.slice.injEq] at h1
    exact ⟨h1.1, cur, h3⟩
theorem HQ.frp {T : Nat → Prop} (H : HQ w g V R rc S h) (hf : FrP T w w') (hT : ∀ k, FootQ g R S k → ¬ T k) : HQ w' g V R rc S h :=
  ⟨hf.get H.hp (hT _ (.inl rfl)), own_frp H.rt hf (fun k hk => hT _ (.inr (.inl (H.rtBlock hk).1))),
    fun x hx => hf.get (H.ob x hx) (hT _ (.inr (.inr ⟨x, hx, .inl rfl⟩))), fun x hx => (H.row x hx).frp hf (fun hne => hT _ (.inr (.inr ⟨x, hx, .inr ⟨hne, rfl⟩⟩))), H.one, H.far⟩
theorem HQ.fr {T : List Nat} (H : HQ w g V R rc S h) (hf : Fr T w w') (hT : ∀ k, FootQ g R S k → k ∉ T) : HQ w' g V R rc S h := H.frp (FrP.ofFr hf) hT
theorem HQ.fr0 (H : HQ w g V R rc S h) (hf : Fr [] w w') : HQ w' g V R rc S h := H.fr hf (fun _ _ => by simp)
theorem HQ.foot_lt (H : HQ w g V R rc S h) {k : Nat} (hk : FootQ g R S k) : k < w.heap.size := by
  rcases hk with rfl | hk | ⟨x, hx, rfl | ⟨hne, rfl⟩⟩
  · exact blk_lt H.hp
  · obtain ⟨-, cur, h1⟩ := H.rtBlock (k := k) (by rw [hk]; rfl); exact blk_lt h1
  · exact blk_lt (H.ob x hx)
  · exact (H.row x hx hne).2.lt
theorem HQ.new (H : HQ w g V R rc S h) (hf : Below w.heap.size w w') : HQ w' g V R rc S h :=
  H.frp (FrP.ofBelow hf) (fun k hk => by have := H.foot_lt hk; omega)
theorem HQ.c0 (H : HQ w g V R rc S h) : w.cell? ⟨g, 0, none⟩ = some (.int .i64 h.young) := (blk_cell H.hp 0).trans rfl
theorem HQ.c1 (H : HQ w g V R rc S h) : w.cell? ⟨g, 1, none⟩ = some (.int .i64 h.old) := (blk_cell H.hp 1).trans rfl
theorem HQ.c2 (H : HQ w g V R rc S h) : w.cell? ⟨g, 2, none⟩ = some V := (blk_cell H.hp 2).trans rfl
theorem HQ.c3 (H : HQ w g V R rc S h) : w.cell? ⟨g, 3, none⟩ = some (.slice R h.roots.length rc) := (blk_cell H.hp 3).trans rfl
theorem HQ.c4 (H : HQ w g V R rc S h) : w.cell? ⟨g, 4, none⟩ = some (.int .i64 h.nx) := (blk_cell H.hp 4).trans rfl
theorem HQ.c5 (H : HQ w g V R rc S h) : w.cell? ⟨g, 5, none⟩ = some (.int .i64 h.minor) := (blk_cell H.hp 5).trans rfl
theorem HQ.c6 (H : HQ w g V R rc S h) : w.cell? ⟨g, 6, none⟩ = some (.int .i64 h.major) := (blk_cell H.hp 6).trans rfl
theorem HQ.c7 (H : HQ w g V R rc S h) : w.cell? ⟨g, 7, none⟩ = some (.bool h.spent) := (blk_cell H.hp 7).trans rfl
theorem HQ.fz (H : HQ w g V R rc S h) (i : Nat) : w.frozen? ⟨g, i, none⟩ = false := blk_frozen H.hp i
theorem HQ.ne_gt (H : HQ w g V R rc S h) {x : OW} (hx : x ∈ S) : x.t ≠ g := fun e => by
  have := H.ob x hx
  rw [e, H.hp] at this
  simp [rsObj, OW.robj] at this
theorem HQ.ne_gf (H : HQ w g V R rc S h) {x : OW} (hx : x ∈ S) (hne : x.o.fs ≠ []) : x.fb ≠ g := fun e => by
  obtain ⟨-, cur, h2, -⟩ := H.row x hx hne
  rw [e, H.hp] at h2
  simp [rsObj] at h2
theorem HQ.ne_gr (H : HQ w g V R rc S h) {rb : Nat} (hr : R = some ⟨rb, 0, none⟩) : rb ≠ g := fun e => by
  obtain ⟨-, cur, h1⟩ := H.rtBlock (k := rb) (by rw [hr]; rfl)
  rw [e, H.hp] at h1; simp [rsObj] at h1
theorem HQ.ne_tr (H : HQ w g V R rc S h) {x : OW} (hx : x ∈ S) {rb : Nat} (hr : R = some ⟨rb, 0, none⟩) : x.t ≠ rb := fun e => by
  obtain ⟨-, cur, h1⟩ := H.rtBlock (k := rb) (by rw [hr]; rfl)
  have := H.ob x hx
  rw [e, h1] at this
  simp [OW.robj] at this
theorem HQ.ne_tf (H : HQ w g V R rc S h) {x y : OW} (hx : x ∈ S) (hy : y ∈ S) (hne : y.o.fs ≠ []) : x.t ≠ y.fb := fun e => by
  obtain ⟨-, cur, h2, -⟩ := H.row y hy hne
  have := H.ob x hx
  rw [e, h2] at this
  simp [OW.robj] at this
/-- A row of pointers is none of its blocks. -/
theorem HQ.ne_p (H : HQ w g V R rc S h) {k : Nat} {cur : Array Value} {fr : Nat × Nat} (hk : w.heap[k]? = some (.cells cur 105 fr)) : ¬ FootQ g R S k := by
  rintro (rfl | hr | ⟨x, hx, rfl | ⟨hne, rfl⟩⟩)
  · rw [H.hp] at hk; simp [rsObj] at hk
  · obtain ⟨-, cur, h1⟩ := H.rtBlock (k := k) (by rw [hr]; rfl)
    rw [h1] at hk; simp at hk
  · rw [H.ob x hx] at hk; simp [OW.robj] at hk
  · obtain ⟨-, cur, h2, -⟩ := H.row x hx hne
    rw [h2] at hk; simp at hk
/-- Its own block turned. -/
theorem HQ.turned (H : HQ w g V R rc S h) {V' : Value} {h' : RS} (hf : Fr [g] w w') (hg : w'.heap[g]? = some (rsObj V' R rc h')) (hr : h'.roots = h.roots) : HQ w' g V' R rc S h' := by
  refine ⟨hg, ?_, fun x hx => hf.get (H.ob x hx) (by simpa using H.ne_gt hx), fun x hx => (H.row x hx).fr hf (fun hne => by simpa using H.ne_gf hx hne), H.one, H.far⟩
  rw [hr]
  exact own_fr H.rt hf (fun k hk => by simpa using H.ne_gr (H.rtBlock hk).1)
theorem HQ.apart (H : HQ w g V R rc S h) {i j : Nat} (hi : i < S.length) (hj : j < S.length) (e : i ≠ j) : S[i].t ≠ S[j].t ∧ (S[i].o.fs ≠ [] → S[j].o.fs ≠ [] → S[i].fb ≠ S[j].fb) := by
  have h1 := List.pairwise_iff_getElem.1 H.one
  rcases Nat.lt_or_gt_of_ne e with h2 | h2
  · exact h1 i j hi hj h2
  · have h3 := h1 j i hj hi h2
    exact ⟨h3.1.symm, fun a b => (h3.2 b a).symm⟩
theorem HQ.tsame (H : HQ w g V R rc S h) {x y : OW} (hx : x ∈ S) (hy : y ∈ S) (e : x.t = y.t) : x = y := by
  obtain ⟨i, hi, rfl⟩ := List.mem_iff_getElem.1 hx
  obtain ⟨j, hj, rfl⟩ := List.mem_iff_getElem.1 hy
  by_cases h1 : i = j
  · subst h1; rfl
  · exact absurd e (H.apart hi hj h1).1
/-- One object turned in place. -/
theorem HQ.upd (H : HQ w g V R rc S h) {i : Nat} (hi : i < S.length) (x' : OW) (ht : x'.t = S[i].t) (hfb : x'.fb = S[i].fb) (hlen : x'.o.fs.length = S[i].o.fs.length) {T : Nat → Prop} (hf : FrP T w w') (hT : ∀ k, T k → k = S[i].t ∨ (S[i].o.fs ≠ [] ∧ k = S[i].fb))
    (hob : w'.heap[x'.t]? = some x'.robj) (hr : x'.rowOk w') : HQ w' g V R rc (S.set i x') h := by
  have hx := List.getElem_mem hi
  have hnil : x'.o.fs ≠ [] ↔ S[i].o.fs ≠ [] := by rw [← List.length_pos_iff, ← List.length_pos_iff, hlen]
  have hT' : ∀ k, (k = S[i].t → False) → (S[i].o.fs ≠ [] → k = S[i].fb → False) → ¬ T k := fun k h1 h2 hm => (hT k hm).elim h1 (fun e => h2 e.1 e.2)
  have hset : ∀ j, (hj : j < (S.set i x').length) → ((S.set i x')[j] = x' ∧ j = i) ∨ (j ≠ i ∧ (S.set i x')[j] = S[j]'(by simpa using hj)) := fun j hj => by
    by_cases e : j = i
    · subst e; exact .inl ⟨by simp, rfl⟩
    · exact .inr ⟨e, by rw [List.getElem_set_ne (fun e' => e e'.symm)]⟩
  refine ⟨hf.get H.hp (hT' _ (fun e => H.ne_gt hx e.symm) (fun hn e => H.ne_gf hx hn e.symm)), own_frp H.rt hf (fun k hk => ?_), fun y hy => ?_, fun y hy => ?_, ?_, fun y hy rb hrb => ?_⟩
  · have hR := (H.rtBlock hk).1
    exact hT' _ (fun e => H.ne_tr hx hR e.symm) (fun hn e => H.far _ hx k hR hn e.symm)
  · obtain ⟨j, hj, rfl⟩ := List.mem_iff_getElem.1 hy
    rcases hset j hj with ⟨e, -⟩ | ⟨e1, e⟩
    · rw [e]; exact hob
    · rw [e]
      have hjS : j < S.length := by simpa using hj
      exact hf.get (H.ob _ (List.getElem_mem hjS)) (hT' _ (fun e2 => (H.apart hjS hi e1).1 e2) (fun hn e2 => H.ne_tf (List.getElem_mem hjS) hx hn e2))
  · obtain ⟨j, hj, rfl⟩ := List.mem_iff_getElem.1 hy
    rcases hset j hj with ⟨e, -⟩ | ⟨e1, e⟩
    · rw [e]; exact hr
    · rw [e]
      have hjS : j < S.length := by simpa using hj
      exact (H.row _ (List.getElem_mem hjS)).frp hf (fun hn => hT' _ (fun e2 => H.ne_tf hx (List.getElem_mem hjS) hn e2.symm) (fun hn2 e2 => (H.apart hjS hi e1).2 hn hn2 e2))
  · rw [List.pairwise_iff_getElem]
    intro a b ha hb hab
    have haS : a < S.length := by simpa using ha
    have hbS : b < S.length := by simpa using hb
    have hap := H.apart haS hbS (by omega)
    rcases hset a ha with ⟨e, e0⟩ | ⟨e0, e⟩ <;> rcases hset b hb with ⟨d, d0⟩ | ⟨d0, d⟩
    · omega
    · rw [e, d, ht, hfb]; subst e0
      exact ⟨hap.1, fun p q => hap.2 (hnil.1 p) q⟩
    · rw [e, d, ht, hfb]; subst d0
      exact ⟨hap.1, fun p q => hap.2 p (hnil.1 q)⟩
    · rw [e, d]; exact hap
  · obtain ⟨j, hj, rfl⟩ := List.mem_iff_getElem.1 hy
    rcases hset j hj with ⟨e, -⟩ | ⟨e1, e⟩
    · rw [e, hfb]
      exact fun hn => H.far _ hx rb hrb (hnil.1 hn)
    · rw [e]
      have hjS : j < S.length := by simpa using hj
      exact H.far _ (List.getElem_mem hjS) rb hrb
/-- Fewer objects, or in another order. -/
theorem HQ.sub (H : HQ w g V R rc S h) {S' : List OW} (hs : ∀ x ∈ S', x ∈ S) (hone : S'.Pairwise fun x y => x.t ≠ y.t) : HQ w g V R rc S' h := by
  refine ⟨H.hp, H.rt, fun x hx => H.ob x (hs x hx), fun x hx => H.row x (hs x hx), ?_, fun x hx => H.far x (hs x hx)⟩
  refine hone.imp_of_mem fun {x y} hx hy hne => ⟨hne, fun p q => ?_⟩
  obtain ⟨i, hi, rfl⟩ := List.mem_iff_getElem.1 (hs x hx)
  obtain ⟨j, hj, rfl⟩ := List.mem_iff_getElem.1 (hs y hy)
  exact (H.apart hi hj (fun e => by subst e; exact hne rfl)).2 p q
theorem HQ.rootAt (H : HQ w g V R rc S h) {i : Nat} (hi : i < h.roots.length) : ∃ rb, R = some ⟨rb, 0, none⟩ ∧ w.cell? ⟨rb, i, none⟩ = some (.int .i64 (h.roots.getD i 0)) ∧ ∀ j, w.frozen? ⟨rb, j, none⟩ = false := by
  rcases H.rt.2 with ⟨-, h2⟩ | ⟨qb, cap, cur, h1, h2, h3, h4, h5, h6, h7⟩
  · omega
  · simp only [Value.slice.injEq] at h1
    obtain ⟨rfl, -, rfl⟩ := h1
    refine ⟨qb, rfl, (blk_cell h3 i).trans ?_, fun j => blk_frozen h3 j⟩
    have h8 : (cur.toList.take (h.roots.length * 1))[i]? = (h.roots.map (Value.int .i64))[i]? := congrArg (fun l : List Value => l[i]?) h7
    rw [List.getElem?_take, if_pos (by omega)] at h8
    rw [← Array.getElem?_toList, h8]
    simp [List.getD, List.getElem?_eq_getElem hi]
/-- What a slice of pointers is. -/
theorem Ptrs.shape {V : Value} {S : List OW} (h : Ptrs w V S) : ∃ A c, V = .slice A S.length c := by
  rcases h.2 with ⟨h1, h2⟩ | ⟨q, cap, cur, h1, -⟩
  · exact ⟨none, 0, by rw [h1, h2]⟩
  · exact ⟨_, _, h1⟩
theorem Ptrs.at {A : Option Addr} {n c : Nat} {S : List OW} (h : Ptrs w (.slice A n c) S) {i : Nat} (hi : i < S.length) : ∃ q, A = some ⟨q, 0, none⟩ ∧ w.cell? ⟨q, i, none⟩ = some (ptr S[i].t) := by
  rcases h.2 with ⟨-, h2⟩ | ⟨qb, cap, cur, h1, h2, h3, h4, h5, h6, h7⟩
  · omega
  · simp only [Value.slice.injEq] at h1
    obtain ⟨rfl, -, rfl⟩ := h1
    refine ⟨qb, rfl, (blk_cell h3 i).trans ?_⟩
    have h8 : (cur.toList.take (S.length * 1))[i]? = (S.map fun x => ptr x.t)[i]? := congrArg (fun l : List Value => l[i]?) h7
    rw [List.getElem?_take, if_pos (by omega)] at h8
    rw [← Array.getElem?_toList, h8]
    simp [List.getElem?_eq_getElem hi]
theorem Ptrs.frp {T : Nat → Prop} {V : Value} {S : List OW} (h : Ptrs w V S) (hf : FrP T w w') (hv : ∀ k, V.ownBlock = some k → ¬ T k) : Ptrs w' V S := by
  refine ⟨h.1, ?_⟩
  rcases h.2 with h | ⟨g, cap, cur, rfl, b, c, d⟩
  · exact .inl h
  · exact .inr ⟨g, cap, cur, rfl, b, hf.get c (hv g rfl), d⟩
theorem Ptrs.block {V : Value} {S : List OW} (h : Ptrs w V S) {k : Nat} (hk : V.ownBlock = some k) : ∃ cur, w.heap[k]? = some (.cells cur 105 (0, 0)) := by
  rcases h.2 with ⟨rfl, -⟩ | ⟨g, cap, cur, rfl, b, c, d⟩
  · cases hk
  · obtain rfl : g = k := by simpa [Value.ownBlock] using hk
    exact ⟨cur, c⟩
/-- Frames of the heap's blocks leave pointers. -/
theorem Ptrs.foot {h' : RS} {V V' : Value} {S S' : List OW} (h : Ptrs w V S) (H : HQ w g V' R rc S' h') (hf : FrP (FootQ g R S') w w') : Ptrs w' V S :=
  h.frp hf (fun k hk => by obtain ⟨cur, hc⟩ := h.block hk; exact H.ne_p hc)
theorem Ptrs.new {V : Value} {S : List OW} (h : Ptrs w V S) (hf : Below w.heap.size w w') : Ptrs w' V S :=
  h.frp (FrP.ofBelow hf) (fun k hk => by obtain ⟨cur, hc⟩ := h.block hk; have := blk_lt hc; omega)
/-- A document's heap, whole. -/
structure HR (w : World) (g : Nat) (V : Value) (R : Option Addr) (rc : Nat) (L : List OW) (h : RS) : Prop where
  q : HQ w g V R rc L h
  ps : Ptrs w V L
  keys : L.Pairwise fun x y => x.k ≠ y.k
  low : ∀ x ∈ L, 0 < x.k ∧ x.k < h.nx ∧ x.k % 2 = 0
def FootR (g : Nat) (V : Value) (R : Option Addr) (S : List OW) (k : Nat) : Prop := FootQ g R S k ∨ V.ownBlock = some k
theorem HR.foot_lt {L : List OW} (H : HR w g V R rc L h) {k : Nat} (hk : FootR g V R L k) : k < w.heap.size := by
  rcases hk with hk | hk
  · exact H.q.foot_lt hk
  · obtain ⟨cur, hc⟩ := H.ps.block hk; exact blk_lt hc
theorem HR.frp {T : Nat → Prop} {L : List OW} (H : HR w g V R rc L h) (hf : FrP T w w') (hT : ∀ k, FootR g V R L k → ¬ T k) : HR w' g V R rc L h :=
  ⟨H.q.frp hf (fun k hk => hT k (.inl hk)), H.ps.frp hf (fun k hk => hT k (.inr hk)), H.keys, H.low⟩
theorem HR.new {L : List OW} (H : HR w g V R rc L h) (hf : Below w.heap.size w w') : HR w' g V R rc L h :=
  H.frp (FrP.ofBelow hf) (fun k hk => by have := H.foot_lt hk; omega)
theorem HR.fr0 {L : List OW} (H : HR w g V R rc L h) (hf : Fr [] w w') : HR w' g V R rc L h := H.frp (FrP.ofFr hf) (fun _ _ => by simp)
end
end Go.Proofs.Ytlghnldlkbgajaa.S
namespace Go.Proofs.Ytlghnldlkbgajaa.S
open Go.RowKit Go.Proofs.YtlghnldlkbgajaaW.PrintWords Go.Proofs.YtlghnldlkbgajaaW.PrintLast Go.Proofs.YtlghnldlkbgajaaW.PrintMore
set_option linter.unusedVariables false
set_option linter.unusedSimpArgs false

def fnd (L : List OW) (a : Int) : Option OW := L.find? fun x => decide (x.k = a)
def fndV : Option OW → Value
  | some x => ptr x.t
  | none => .pointer none
theorem fnd_drop {L : List OW} {i : Nat} (hi : i < L.length) (a : Int) : fnd (L.drop i) a = if L[i].k = a then some L[i] else fnd (L.drop (i + 1)) a := by
  unfold fnd
  rw [List.drop_eq_getElem_cons hi, List.find?_cons]
  by_cases e : L[i].k = a
  · simp [e]
  · simp [e]
theorem fnd_mem {L : List OW} {a : Int} {x : OW} (h : fnd L a = some x) : x ∈ L ∧ x.k = a := ⟨List.mem_of_find?_eq_some h, by simpa using List.find?_some h⟩
theorem fnd_none {L : List OW} {a : Int} (h : fnd L a = none) : ∀ x ∈ L, x.k ≠ a := fun x hx e => by
  have := List.find?_eq_none.1 h x hx
  simp [e] at this
section
variable {w : World} {g rc : Nat} {V : Value} {R : Option Addr} {L : List OW} {h : RS}
set_option maxRecDepth 100000 in
theorem rfind_calls (H : HR w g V R rc L h) (hL : L.length ≤ 1000000) (a : Int) : Calls Try.prog 62 #[ptr g, .int .i64 a] w fun e w' => e = .returned (fndV (fnd L a)) ∧ w' = w := by
  obtain ⟨A, c, rfl⟩ := H.ps.shape
  have c2 := H.q.c2
  have HH := Aside0.mk H
  have HL := Aside0.mk hL
  obtain ⟨z, hz⟩ : ∃ z, z = fnd L a := ⟨_, rfl⟩
  have HZ := Aside0.mk (show z = fnd (L.drop 0) a from hz)
  rw [← hz]
  unfold ptr
  clear H hL hz
  go_enter Try.func62, Try.ntmps62
  go_wp2_with fail
  go_loopw [12] (fun v wr => ∃ i : Nat, v = .int .i64 i ∧ Aside0 (i ≤ L.length) ∧ Aside0 (z = fnd (L.drop i) a) ∧ Aside0 (wr = w)) (fun v wr => L.length - (intOf v).toNat)
  case atStart => exact ⟨0, rfl, ⟨Nat.zero_le _⟩, HZ, ⟨rfl⟩⟩
  case round =>
    clear HZ
    obtain ⟨i, rfl, hi, HZ, hw⟩ := hrel
    obtain rfl := hw.out
    have hL := HL.out
    by_cases hlt : i < L.length
    · have hltb : decide ((i : Int) < (L.length : Int)) = true := decide_eq_true (by omega)
      have hil : (i : Int) < (L.length : Int) := by omega
      obtain ⟨q, hA, qc⟩ := HH.out.ps.at hlt
      rw [hA]
      have k0 : wr.cell? ⟨L[i].t, 0, none⟩ = some (.int .i64 L[i].k) := (blk_cell (HH.out.q.ob _ (List.getElem_mem hlt)) 0).trans rfl
      have hz := HZ.out
      rw [fnd_drop hlt] at hz
      obtain ⟨x, hx⟩ : ∃ x, x = L[i] := ⟨_, rfl⟩
      rw [← hx] at qc k0 hz
      unfold ptr at qc
      have HX := Aside0.mk hx
      clear hx hA HZ
      by_cases hk : x.k = a
      · have hkb : (x.k == a) = true := by simpa using hk
        rw [if_pos hk] at hz
        subst hz
        clear hk
        go_wp2_with fail
        go_returns
        exact ⟨rfl, rfl⟩
      · have hkb : (x.k == a) = false := by simpa using hk
        rw [if_neg hk] at hz
        have HZ := Aside0.mk hz
        clear hz hk
        go_wp2_with fail
        go_roundw
        case rel => exact ⟨i + 1, by go_num, ⟨hlt⟩, HZ, ⟨by trivial⟩⟩
        case measure => simp [intOf]; omega
    · have hltb : decide ((i : Int) < (L.length : Int)) = false := decide_eq_false (by omega)
      have hi' := hi.out
      have hz : z = none := by rw [HZ.out, show i = L.length from by omega, List.drop_length]; rfl
      subst hz
      clear HZ
      go_wp2_with fail
      go_returns
      exact ⟨rfl, rfl⟩
theorem inf107 : ∃ j, Try.prog.info? 107 = some j ∧ j.size ≠ 0 := by
  have h : (Try.prog.info? 107).map (·.size) = some 6 := by kernel_rfl
  cases hj : Try.prog.info? 107 with
  | none => rw [hj] at h; cases h
  | some j => rw [hj] at h; exact ⟨j, rfl, by have h1 : j.size = 6 := Option.some.inj h; omega⟩
/-- A pointer among pointers. -/
def hasB (S : List OW) (t : Nat) : Bool := S.any fun x => decide (x.t = t)
set_option maxRecDepth 100000 in
theorem has_calls {V : Value} {S : List OW} (H : Ptrs w V S) (hL : S.length ≤ 1000000) (hob : ∀ x ∈ S, ∃ c ty, w.heap[x.t]? = some (.cells c ty (0, 0))) {t : Nat} (ht : ∃ c ty, w.heap[t]? = some (.cells c ty (0, 0))) : Calls Try.prog 65 #[V, ptr t] w fun e w' => e = .returned (.bool (hasB S t)) ∧ w' = w := by
  obtain ⟨A, c, rfl⟩ := H.shape
  have HH := Aside0.mk H
  have HL := Aside0.mk hL
  obtain ⟨z, hz⟩ : ∃ z, z = hasB S t := ⟨_, rfl⟩
  have HZ := Aside0.mk (show z = hasB (S.drop 0) t from hz)
  have HO := Aside0.mk hob
  have HT := Aside0.mk ht
  have hsame := fun (w : World) => run_eql_ptr_same (P := Try.prog) w (⟨t, 0, none⟩ : Addr) Try.underlying105 inf107.choose_spec.1
  rw [← hz]
  unfold ptr
  clear H hL hz hob ht
  go_enter Try.func65, Try.ntmps65
  go_wp2_with fail
  go_loopw [9] (fun v wr => ∃ i : Nat, v = .int .i64 i ∧ Aside0 (i ≤ S.length) ∧ Aside0 (z = hasB (S.drop i) t) ∧ Aside0 (wr = w)) (fun v wr => S.length - (intOf v).toNat)
  case atStart => exact ⟨0, rfl, ⟨Nat.zero_le _⟩, HZ, ⟨rfl⟩⟩
  case round =>
    clear HZ
    obtain ⟨i, rfl, hi, HZ, hw⟩ := hrel
    obtain rfl := hw.out
    have hL := HL.out
    by_cases hlt : i < S.length
    · have hltb : decide ((i : Int) < (S.length : Int)) = true := decide_eq_true (by omega)
      have hil : (i : Int) < (S.length : Int) := by omega
      obtain ⟨q, hA, qc⟩ := HH.out.at hlt
      rw [hA]
      have hz := HZ.out
      unfold hasB at hz
      rw [List.drop_eq_getElem_cons hlt, List.any_cons] at hz
      obtain ⟨x, hx⟩ : ∃ x, x = S[i] := ⟨_, rfl⟩
      rw [← hx] at qc hz
      unfold ptr at qc
      have hx0 := Aside0.mk hx
      clear hx hA HZ
      by_cases hk : x.t = t
      · rw [decide_eq_true hk, Bool.true_or] at hz
        subst hz hk
        go_wp2_with fail
        go_returns
        exact ⟨rfl, rfl⟩
      · have hne : (binOp .eql 105 (.pointer (some ⟨x.t, 0, none⟩)) (.pointer (some ⟨t, 0, none⟩))).run Try.prog wr = .ok (.bool false) wr := by
          obtain ⟨ca, ta, ha⟩ := HO.out x (hx0.out ▸ List.getElem_mem hlt)
          obtain ⟨cb, tb, hb⟩ := HT.out
          exact run_eql_ptr_other wr Try.underlying105 inf107.choose_spec.1 inf107.choose_spec.2 (fun e => hk (by simp at e)) ha hb
        rw [decide_eq_false hk, Bool.false_or] at hz
        have HZ := Aside0.mk (show z = hasB (S.drop (i + 1)) t from hz)
        clear hz
        go_wp2_with fail
        go_roundw
        case rel => exact ⟨i + 1, by go_num, ⟨hlt⟩, HZ, ⟨by trivial⟩⟩
        case measure => simp [intOf]; omega
    · have hltb : decide ((i : Int) < (S.length : Int)) = false := decide_eq_false (by omega)
      have hi' := hi.out
      have hz : z = false := by rw [HZ.out, show i = S.length from by omega, List.drop_length]; rfl
      subst hz
      clear HZ
      go_wp2_with fail
      go_returns
      exact ⟨rfl, rfl⟩
end
end Go.Proofs.Ytlghnldlkbgajaa.S
namespace Go.Proofs.Ytlghnldlkbgajaa.S
open Go.RowKit Go.Proofs.YtlghnldlkbgajaaW.PrintWords Go.Proofs.YtlghnldlkbgajaaW.PrintLast Go.Proofs.YtlghnldlkbgajaaW.PrintMore
set_option linter.unusedVariables false
set_option linter.unusedSimpArgs false

def textB (k : Int) : Bool := decide (3 ≤ k) && decide (k ≤ 5)
set_option maxRecDepth 100000 in
theorem rtext_calls (k : Int) (w : World) : Calls Try.prog 66 #[.int .i64 k] w fun e w' => e = .returned (.bool (textB k)) ∧ w' = w := by
  unfold textB
  by_cases h3 : k = 3
  · subst h3
    go_enter Try.func66, Try.ntmps66
    go_wp2_with fail
    go_returns
    exact ⟨rfl, rfl⟩
  · have b3 : (k == 3) = false := by simpa using h3
    by_cases h4 : k = 4
    · subst h4
      go_enter Try.func66, Try.ntmps66
      go_wp2_with fail
      go_returns
      exact ⟨rfl, rfl⟩
    · have b4 : (k == 4) = false := by simpa using h4
      have e5 : (decide (3 ≤ k) && decide (k ≤ 5)) = (k == 5) := by
        by_cases h5 : k = 5
        · subst h5; rfl
        · have b5 : (k == 5) = false := by simpa using h5
          rw [b5, Bool.and_eq_false_iff]
          by_cases h : 3 ≤ k
          · right; exact decide_eq_false (by omega)
          · left; exact decide_eq_false h
      rw [e5]
      clear h3 h4 e5
      go_enter Try.func66, Try.ntmps66
      go_wp2_with fail
      go_returns
      exact ⟨rfl, rfl⟩
/-- What an object may be: a text without fields, or fields without a text; bounded. -/
structure PO.Fine (o : PO) : Prop where
  fl : o.fs.length ≤ 1000
  tx : o.text.size ≤ 4000
  kt : textB o.kind = true → o.fs = []
  kf : textB o.kind = false → o.text = ⟨#[]⟩
section
variable {w : World} {g rc : Nat} {V : Value} {R : Option Addr} {L : List OW} {h : RS}
set_option maxRecDepth 100000 in
theorem rcells_calls {x : OW} (hx : w.heap[x.t]? = some x.robj) (hf : x.o.Fine) : Calls Try.prog 61 #[ptr x.t] w fun e w' => e = .returned (.int .i64 x.o.cells) ∧ w' = w := by
  have HT := Aside0.mk (rtext_calls x.o.kind w)
  have k1 : w.cell? ⟨x.t, 1, none⟩ = some (.int .i64 x.o.kind) := (blk_cell hx 1).trans rfl
  have k2 : w.cell? ⟨x.t, 2, none⟩ = some (.slice x.A x.o.fs.length x.c) := (blk_cell hx 2).trans rfl
  have k3 : w.cell? ⟨x.t, 3, none⟩ = some (.string x.o.text) := (blk_cell hx 3).trans rfl
  have hfl := hf.fl
  have htx := hf.tx
  have hkt := hf.kt
  have hkf := hf.kf
  unfold ptr PO.cells
  clear hx hf
  generalize x.o.fs = fs at *
  generalize x.o.text = s at *
  generalize x.t = t at *
  generalize x.A = A at *
  generalize x.c = c at *
  generalize x.o.kind = kd at *
  cases hb : textB kd with
  | true =>
    have hn := hkt hb
    subst hn
    rw [hb] at HT
    clear hkt hkf hb
    go_enter Try.func61, Try.ntmps61
    go_wp2_with fail
    refine HT.out.mono ?_
    rintro e w1 ⟨rfl, rfl⟩
    clear HT
    go_wp2_with fail
    go_returns
    refine ⟨?_, rfl⟩
    show Ending.returned (.int .i64 (1 + ((s.size : Int) + 7) / 8)) = _
    congr 2
  | false =>
    have hn := hkf hb
    subst hn
    rw [hb] at HT
    clear hkt hkf hb
    generalize fs.length = n at *
    go_enter Try.func61, Try.ntmps61
    go_wp2_with fail
    refine HT.out.mono ?_
    rintro e w1 ⟨rfl, rfl⟩
    clear HT
    go_wp2_with fail
    go_returns
    refine ⟨?_, rfl⟩
    show Ending.returned (.int .i64 (1 + (n : Int))) = .returned (.int .i64 (1 + (n : Int) + ((((0 : Nat) + 7) / 8 : Nat) : Int)))
    congr 2
def sumB (L : List OW) (b : Bool) : Int := L.foldl (fun s x => if x.o.old = b then s + x.o.cells else s) 0
theorem sumB_take (L : List OW) (b : Bool) {i : Nat} (hi : i < L.length) : sumB (L.take (i + 1)) b = if L[i].o.old = b then sumB (L.take i) b + L[i].o.cells else sumB (L.take i) b := by
  unfold sumB
  rw [List.take_add_one, List.getElem?_eq_getElem hi, List.foldl_append]
  rfl
theorem PO.Fine.cells {o : PO} (h : o.Fine) : 1 ≤ o.cells ∧ o.cells ≤ 1600 := by
  have := h.fl; have := h.tx
  unfold PO.cells
  omega
theorem sumB_le (b : Bool) : ∀ (L : List OW), (∀ x ∈ L, x.o.Fine) → ∀ s : Int, 0 ≤ s → s ≤ L.foldl (fun s x => if x.o.old = b then s + x.o.cells else s) s ∧ L.foldl (fun s x => if x.o.old = b then s + x.o.cells else s) s ≤ s + 1600 * L.length
  | [], _, s, _ => ⟨Int.le_refl _, by simp⟩
  | x :: L, hf, s, hs => by
    have hx := (hf x (by simp)).cells
    rw [List.foldl_cons, List.length_cons]
    split
    · have := sumB_le b L (fun y hy => hf y (by simp [hy])) (s + x.o.cells) (by omega)
      omega
    · have := sumB_le b L (fun y hy => hf y (by simp [hy])) s hs
      omega
theorem sumB_bound {L : List OW} (hf : ∀ x ∈ L, x.o.Fine) (b : Bool) : 0 ≤ sumB L b ∧ sumB L b ≤ 1600 * L.length := by
  have := sumB_le b L hf 0 (Int.le_refl _)
  unfold sumB
  omega
set_option maxRecDepth 100000 in
theorem rsum_calls (H : HR w g V R rc L h) (hL : L.length ≤ 1000000) (hf : ∀ x ∈ L, x.o.Fine) (b : Bool) : Calls Try.prog 38 #[ptr g, .bool b] w fun e w' => e = .returned (.int .i64 (sumB L b)) ∧ w' = w := by
  obtain ⟨A, c, rfl⟩ := H.ps.shape
  have c2 := H.q.c2
  have HH := Aside0.mk H
  have HL := Aside0.mk hL
  have HF := Aside0.mk hf
  unfold ptr
  clear H hL hf
  go_enter Try.func38, Try.ntmps38
  go_wp2_with fail
  go_loopw [5, 13] (fun s v wr => ∃ i : Nat, s = .int .i64 (sumB (L.take i) b) ∧ v = .int .i64 i ∧ Aside0 (i ≤ L.length) ∧ Aside0 (wr = w)) (fun s v wr => L.length - (intOf v).toNat)
  case atStart => exact ⟨0, rfl, rfl, ⟨Nat.zero_le _⟩, ⟨rfl⟩⟩
  case round =>
    obtain ⟨i, rfl, rfl, hi, hw⟩ := hrel
    obtain rfl := hw.out
    have hL := HL.out
    by_cases hlt : i < L.length
    · have hltb : decide ((i : Int) < (L.length : Int)) = true := decide_eq_true (by omega)
      have hil : (i : Int) < (L.length : Int) := by omega
      obtain ⟨q, hA, qc⟩ := HH.out.ps.at hlt
      rw [hA]
      have hob := HH.out.q.ob _ (List.getElem_mem hlt)
      have k4 : wr.cell? ⟨L[i].t, 4, none⟩ = some (.bool L[i].o.old) := (blk_cell hob 4).trans rfl
      have hfi := HF.out _ (List.getElem_mem hlt)
      have HC := Aside0.mk (rcells_calls hob hfi)
      have hst := sumB_take L b hlt
      have hb1 := sumB_bound (L := L.take i) (fun x hx => HF.out x (List.mem_of_mem_take hx)) b
      have hb2 := hfi.cells
      rw [List.length_take] at hb1
      obtain ⟨x, hx⟩ : ∃ x, x = L[i] := ⟨_, rfl⟩
      rw [← hx] at qc k4 hst hb2 HC
      unfold ptr at qc HC
      obtain ⟨s, hs⟩ : ∃ s, s = sumB (L.take i) b := ⟨_, rfl⟩
      rw [← hs] at hst hb1
      rw [← hs]
      have HB1 := Aside0.mk (And.intro hb1 hb2)
      have HST := Aside0.mk hst
      clear hx hA hob hfi hst hs hb1 hb2
      by_cases hk : x.o.old = b
      · have hkb : (x.o.old == b) = true := by simpa using hk
        have hs2 := HST.out
        rw [if_pos hk] at hs2
        have HS2 := Aside0.mk hs2
        clear hs2 HST hk
        go_wp2_with fail
        refine HC.out.mono ?_
        rintro e w1 ⟨rfl, rfl⟩
        clear HC
        go_wp2_with fail
        go_roundw
        case rel => exact ⟨i + 1, by rw [HS2.out]; have := HB1.out; congr 1; unfold wrap64; omega, by go_num, ⟨hlt⟩, ⟨by trivial⟩⟩
        case measure => simp [intOf]; omega
      · have hkb : (x.o.old == b) = false := by simpa using hk
        have hs2 := HST.out
        rw [if_neg hk] at hs2
        have HS2 := Aside0.mk hs2
        clear hs2 HST hk HC
        go_wp2_with fail
        go_roundw
        case rel => exact ⟨i + 1, by rw [HS2.out], by go_num, ⟨hlt⟩, ⟨by trivial⟩⟩
        case measure => simp [intOf]; omega
    · have hltb : decide ((i : Int) < (L.length : Int)) = false := decide_eq_false (by omega)
      have hi' := hi.out
      obtain rfl : i = L.length := by omega
      rw [List.take_length]
      go_wp2_with fail
      go_returns
      exact ⟨rfl, rfl⟩
set_option maxRecDepth 100000 in
theorem rroots_calls (H : HQ w g V R rc L h) : Calls Try.prog 39 #[ptr g] w fun e w' => e = .returned (.int .i64 h.roots.length) ∧ w' = w := by
  have c3 := H.c3
  unfold ptr
  clear H
  go_enter Try.func39, Try.ntmps39
  go_wp2
  go_returns
  exact ⟨rfl, rfl⟩
end
end Go.Proofs.Ytlghnldlkbgajaa.S
namespace Go.Proofs.Ytlghnldlkbgajaa.S
open Go.RowKit Go.Proofs.YtlghnldlkbgajaaW.PrintWords Go.Proofs.YtlghnldlkbgajaaW.PrintLast Go.Proofs.YtlghnldlkbgajaaW.PrintMore
set_option linter.unusedVariables false
set_option linter.unusedSimpArgs false
section
variable {w : World} {g rc : Nat} {V : Value} {R : Option Addr} {L : List OW} {h : RS}
def kindF (L : List OW) (a : Int) : Int := match fnd L a with | some x => x.o.kind | none => 0
def textF (L : List OW) (a : Int) : ByteArray := match fnd L a with | some x => x.o.text | none => ⟨#[]⟩
def lenF (L : List OW) (a : Int) : Int := match fnd L a with | some x => (x.o.fs.length : Int) + (x.o.text.size : Int) | none => 0
def fieldF (L : List OW) (a i : Int) : Int × Int := match fnd L a with | some x => if i < 0 ∨ (x.o.fs.length : Int) ≤ i then (0, 1) else (x.o.fs.getD i.toNat 0, 0) | none => (0, 141)
set_option maxRecDepth 100000 in
theorem rkind_calls (H : HR w g V R rc L h) (hL : L.length ≤ 1000000) (a : Int) : Calls Try.prog 41 #[ptr g, .int .i64 a] w fun e w' => e = .returned (.int .i64 (kindF L a)) ∧ w' = w := by
  have HF := Aside0.mk (rfind_calls H hL a)
  unfold kindF
  cases hf : fnd L a with
  | some x =>
    rw [hf] at HF
    have hob := H.q.ob x (fnd_mem hf).1
    have k1 : w.cell? ⟨x.t, 1, none⟩ = some (.int .i64 x.o.kind) := (blk_cell hob 1).trans rfl
    unfold fndV ptr at HF
    unfold ptr
    clear H hL hob hf
    go_enter Try.func41, Try.ntmps41
    go_wp2_with fail
    refine HF.out.mono ?_
    rintro e w1 ⟨rfl, rfl⟩
    clear HF
    go_wp2_with fail
    go_returns
    exact ⟨rfl, rfl⟩
  | none =>
    rw [hf] at HF
    unfold fndV ptr at HF
    unfold ptr
    clear H hL hf
    go_enter Try.func41, Try.ntmps41
    go_wp2_with fail
    refine HF.out.mono ?_
    rintro e w1 ⟨rfl, rfl⟩
    clear HF
    go_wp2_with fail
    go_returns
    exact ⟨rfl, rfl⟩
set_option maxRecDepth 100000 in
theorem rstring_calls (H : HR w g V R rc L h) (hL : L.length ≤ 1000000) (a : Int) : Calls Try.prog 42 #[ptr g, .int .i64 a] w fun e w' => e = .returned (.string (textF L a)) ∧ w' = w := by
  have HF := Aside0.mk (rfind_calls H hL a)
  unfold textF
  cases hf : fnd L a with
  | some x =>
    rw [hf] at HF
    have hob := H.q.ob x (fnd_mem hf).1
    have k3 : w.cell? ⟨x.t, 3, none⟩ = some (.string x.o.text) := (blk_cell hob 3).trans rfl
    unfold fndV ptr at HF
    unfold ptr
    clear H hL hob hf
    go_enter Try.func42, Try.ntmps42
    go_wp2_with fail
    refine HF.out.mono ?_
    rintro e w1 ⟨rfl, rfl⟩
    clear HF
    go_wp2_with fail
    go_returns
    exact ⟨rfl, rfl⟩
  | none =>
    rw [hf] at HF
    unfold fndV ptr at HF
    unfold ptr
    clear H hL hf
    go_enter Try.func42, Try.ntmps42
    go_wp2_with fail
    refine HF.out.mono ?_
    rintro e w1 ⟨rfl, rfl⟩
    clear HF
    go_wp2_with fail
    go_returns
    exact ⟨rfl, rfl⟩
set_option maxRecDepth 100000 in
theorem rfield_calls (H : HR w g V R rc L h) (hL : L.length ≤ 1000000) (a i : Int) : Calls Try.prog 43 #[ptr g, .int .i64 a, .int .i64 i] w fun e w' => e = .returned (.tuple #[.int .i64 (fieldF L a i).1, .int .i64 (fieldF L a i).2]) ∧ w' = w := by
  have HF := Aside0.mk (rfind_calls H hL a)
  unfold fieldF
  cases hf : fnd L a with
  | some x =>
    rw [hf] at HF
    have hob := H.q.ob x (fnd_mem hf).1
    have hrow := H.q.row x (fnd_mem hf).1
    have k2 : w.cell? ⟨x.t, 2, none⟩ = some (.slice x.A x.o.fs.length x.c) := (blk_cell hob 2).trans rfl
    unfold fndV ptr at HF
    unfold ptr
    clear H hL hob hf
    simp only
    by_cases h0 : i < 0
    · have b1 : decide (i < 0) = true := decide_eq_true h0
      rw [if_pos (.inl h0)]
      clear h0 hrow
      go_enter Try.func43, Try.ntmps43
      go_wp2_with fail
      refine HF.out.mono ?_
      rintro e w1 ⟨rfl, rfl⟩
      clear HF
      go_wp2_with fail
      go_returns
      exact ⟨rfl, rfl⟩
    · have b1 : decide (i < 0) = false := decide_eq_false h0
      by_cases h1 : (x.o.fs.length : Int) ≤ i
      · have b2 : decide ((x.o.fs.length : Int) ≤ i) = true := decide_eq_true h1
        rw [if_pos (.inr h1)]
        clear h0 h1 hrow
        go_enter Try.func43, Try.ntmps43
        go_wp2_with fail
        refine HF.out.mono ?_
        rintro e w1 ⟨rfl, rfl⟩
        clear HF
        go_wp2_with fail
        go_returns
        exact ⟨rfl, rfl⟩
      · have b2 : decide ((x.o.fs.length : Int) ≤ i) = false := decide_eq_false h1
        rw [if_neg (by omega)]
        obtain ⟨j, rfl⟩ : ∃ j : Nat, i = (j : Int) := ⟨i.toNat, by omega⟩
        have hj : j < x.o.fs.length := by omega
        obtain ⟨hA, hr⟩ := hrow (by intro e; rw [e] at hj; simp at hj)
        have fc := hr.cell hj
        rw [hA] at k2
        have hil : (j : Int) < (x.o.fs.length : Int) := by omega
        rw [Int.toNat_natCast]
        clear h0 h1 hrow hr hA hj
        go_enter Try.func43, Try.ntmps43
        go_wp2_with fail
        refine HF.out.mono ?_
        rintro e w1 ⟨rfl, rfl⟩
        clear HF
        go_wp2_with fail
        go_returns
        exact ⟨rfl, rfl⟩
  | none =>
    rw [hf] at HF
    unfold fndV ptr at HF
    unfold ptr
    clear H hL hf
    go_enter Try.func43, Try.ntmps43
    go_wp2_with fail
    refine HF.out.mono ?_
    rintro e w1 ⟨rfl, rfl⟩
    clear HF
    go_wp2_with fail
    go_returns
    exact ⟨rfl, rfl⟩
set_option maxRecDepth 100000 in
theorem rroot_calls (H : HQ w g V R rc L h) (i : Int) : Calls Try.prog 40 #[ptr g, .int .i64 i] w fun e w' => e = .returned (.int .i64 (if i < 0 ∨ (h.roots.length : Int) ≤ i then 0 else h.roots.getD i.toNat 0)) ∧ w' = w := by
  have c3 := H.c3
  unfold ptr
  by_cases h0 : i < 0
  · have b1 : decide (i < 0) = true := decide_eq_true h0
    rw [if_pos (.inl h0)]
    clear h0 H
    go_enter Try.func40, Try.ntmps40
    go_wp2_with fail
    go_returns
    exact ⟨rfl, rfl⟩
  · have b1 : decide (i < 0) = false := decide_eq_false h0
    by_cases h1 : (h.roots.length : Int) ≤ i
    · have b2 : decide ((h.roots.length : Int) ≤ i) = true := decide_eq_true h1
      rw [if_pos (.inr h1)]
      clear h0 h1 H
      go_enter Try.func40, Try.ntmps40
      go_wp2_with fail
      go_returns
      exact ⟨rfl, rfl⟩
    · have b2 : decide ((h.roots.length : Int) ≤ i) = false := decide_eq_false h1
      rw [if_neg (by omega)]
      obtain ⟨j, rfl⟩ : ∃ j : Nat, i = (j : Int) := ⟨i.toNat, by omega⟩
      have hj : j < h.roots.length := by omega
      obtain ⟨rb, hR, fc, -⟩ := H.rootAt hj
      rw [hR] at c3
      have hil : (j : Int) < (h.roots.length : Int) := by omega
      rw [Int.toNat_natCast]
      clear h0 h1 hR hj H
      go_enter Try.func40, Try.ntmps40
      go_wp2_with fail
      go_returns
      exact ⟨rfl, rfl⟩
set_option maxRecDepth 100000 in
theorem rthere_calls (H : HR w g V R rc L h) (hL : L.length ≤ 1000000) (x : Int) : Calls Try.prog 68 #[ptr g, .int .i64 x] w fun e w' => e = .returned (.bool (thereB L x)) ∧ w' = w := by
  have HF := Aside0.mk (rfind_calls H hL x)
  unfold thereB ptr
  unfold ptr at HF
  clear H hL
  have ht : x.tmod 2 = 0 ↔ x % 2 = 0 := ⟨fun h => Int.emod_eq_zero_of_dvd (Int.dvd_of_tmod_eq_zero h), fun h => Int.tmod_eq_zero_of_dvd (Int.dvd_of_emod_eq_zero h)⟩
  by_cases h1 : x % 2 = 1
  · have ht2 : ¬ x.tmod 2 = 0 := by rw [ht]; omega
    have hb : (x.tmod 2 == 0) = false := by simpa using ht2
    have hb2 : (x.tmod 2 != 0) = true := by simpa using ht2
    rw [decide_eq_true h1, Bool.true_or, Bool.true_or]
    clear h1 ht ht2 HF
    go_enter Try.func68, Try.ntmps68
    go_wp2_with fail
    go_returns
    exact ⟨rfl, rfl⟩
  · have ht2 : x.tmod 2 = 0 := by rw [ht]; omega
    have hb : (x.tmod 2 == 0) = true := by simpa using ht2
    have hb2 : (x.tmod 2 != 0) = false := by simpa using ht2
    rw [decide_eq_false h1, Bool.false_or]
    have hany : (L.any fun o => decide (o.k = x)) = (fnd L x).isSome := by
      unfold fnd
      rw [List.isSome_find?]
    rw [hany]
    by_cases h2 : x ≤ 0
    · have b2 : decide (x ≤ 0) = true := decide_eq_true h2
      by_cases h3 : -2097152 ≤ x
      · have b3 : decide (-2097152 ≤ x) = true := decide_eq_true h3
        rw [b2, b3, Bool.true_and, Bool.true_or]
        clear h1 h2 h3 hany HF ht ht2
        go_enter Try.func68, Try.ntmps68
        go_wp2_with fail
        go_returns
        exact ⟨rfl, rfl⟩
      · have b3 : decide (-2097152 ≤ x) = false := decide_eq_false h3
        rw [b2, b3, Bool.true_and, Bool.false_or]
        clear h1 h2 h3 hany ht ht2
        cases hf : fnd L x with
        | some y =>
          rw [hf] at HF
          unfold fndV ptr at HF
          clear hf
          go_enter Try.func68, Try.ntmps68
          go_wp2_with fail
          refine HF.out.mono ?_
          rintro e w1 ⟨rfl, rfl⟩
          clear HF
          go_wp2_with fail
          go_returns
          exact ⟨rfl, rfl⟩
        | none =>
          rw [hf] at HF
          unfold fndV at HF
          clear hf
          go_enter Try.func68, Try.ntmps68
          go_wp2_with fail
          refine HF.out.mono ?_
          rintro e w1 ⟨rfl, rfl⟩
          clear HF
          go_wp2_with fail
          go_returns
          exact ⟨rfl, rfl⟩
    · have b2 : decide (x ≤ 0) = false := decide_eq_false h2
      rw [b2, Bool.false_and, Bool.false_or]
      clear h1 h2 hany ht ht2
      cases hf : fnd L x with
      | some y =>
        rw [hf] at HF
        unfold fndV ptr at HF
        clear hf
        go_enter Try.func68, Try.ntmps68
        go_wp2_with fail
        refine HF.out.mono ?_
        rintro e w1 ⟨rfl, rfl⟩
        clear HF
        go_wp2_with fail
        go_returns
        exact ⟨rfl, rfl⟩
      | none =>
        rw [hf] at HF
        unfold fndV at HF
        clear hf
        go_enter Try.func68, Try.ntmps68
        go_wp2_with fail
        refine HF.out.mono ?_
        rintro e w1 ⟨rfl, rfl⟩
        clear HF
        go_wp2_with fail
        go_returns
        exact ⟨rfl, rfl⟩
end
end Go.Proofs.Ytlghnldlkbgajaa.S
