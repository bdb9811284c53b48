
/- heap: a queue of words, cut in front and grown behind; what a search through a heap keeps. -/
import Derived.Test.YtlghnldlkbgajaaHRd
import Derived.ArgAppend
namespace Go.Proofs.Ytlghnldlkbgajaa.S
open Go.RowKit Go.Proofs.YtlghnldlkbgajaaW.PrintWords Go.Proofs.YtlghnldlkbgajaaW.PrintLast Go.Proofs.YtlghnldlkbgajaaW.PrintMore
set_option linter.unusedVariables false
set_option linter.unusedSimpArgs false
/-- A queue of one's own: words somewhere in a row of one's own. -/
def QW (N : Nat) (w : World) (A : Option Addr) (c : Nat) (l : List Int) : Prop :=
  (A = none ∧ l = [] ∧ c = 0) ∨ ∃ q off cur, A = some ⟨q, off, none⟩ ∧ N ≤ q ∧ w.heap[q]? = some (.cells cur 28 (0, 0)) ∧ l.length ≤ c ∧ off + c ≤ cur.size ∧ ∀ i, i < l.length → cur[off + i]? = some (.int .i64 (l.getD i 0))
section
variable {N : Nat} {w w' : World} {A : Option Addr} {c : Nat} {l : List Int}
theorem QW.frp {T : Nat → Prop} (H : QW N w A c l) (hf : FrP T w w') (hT : ∀ k off, A = some ⟨k, off, none⟩ → ¬ T k) : QW N w' A c l := by
  rcases H with h | ⟨q, off, cur, rfl, h1, h2, h3⟩
  · exact .inl h
  · exact .inr ⟨q, off, cur, rfl, h1, hf.get h2 (hT q off rfl), h3⟩
theorem QW.lt (H : QW N w A c l) {k off : Nat} (hk : A = some ⟨k, off, none⟩) : k < w.heap.size ∧ N ≤ k := by
  rcases H with h | ⟨q, off, cur, rfl, h1, h2, h3⟩
  · rw [h.1] at hk; cases hk
  · simp only [Option.some.injEq, Addr.mk.injEq] at hk
    obtain ⟨rfl, -⟩ := hk
    exact ⟨blk_lt h2, h1⟩
theorem QW.new (H : QW N w A c l) (hb : Below w.heap.size w w') : QW N w' A c l := H.frp (FrP.ofBelow hb) (fun k off hk => by have := H.lt hk; omega)
/-- The first word, and the rest. -/
theorem QW.head {x : Int} (H : QW N w A c (x :: l)) : ∃ q off, A = some ⟨q, off, none⟩ ∧ w.cell? ⟨q, off, none⟩ = some (.int .i64 x) ∧ 1 ≤ c ∧ l.length + 1 ≤ c ∧ QW N w (if c = 1 then some ⟨q, off, none⟩ else some ⟨q, off + 1, none⟩) (c - 1) l := by
  rcases H with ⟨-, h, -⟩ | ⟨q, off, cur, rfl, h1, h2, h3, h4, h5⟩
  · cases h
  · rw [List.length_cons] at h3
    refine ⟨q, off, rfl, ?_, by omega, h3, ?_⟩
    · have := h5 0 (by simp)
      rw [blk_cell h2]
      exact this
    · by_cases hc : c = 1
      · rw [if_pos hc]
        have : l = [] := List.length_eq_zero_iff.1 (by omega)
        subst this
        exact .inr ⟨q, off, cur, rfl, h1, h2, by simp, by omega, fun i hi => absurd hi (by simp)⟩
      · rw [if_neg hc]
        refine .inr ⟨q, off + 1, cur, rfl, h1, h2, by omega, by omega, fun i hi => ?_⟩
        have := h5 (i + 1) (by rw [List.length_cons]; omega)
        rw [show off + 1 + i = off + (i + 1) by omega, this]
        rfl
/-- One more word behind. -/
theorem QW.more (H : QW N w A c l) (u : Int) (hl : l.length ≤ 100000000) (hN : N ≤ w.heap.size) :
    ∃ A' c' w', (∀ ty, (Builtin.append_ #[33, 33] ty #[.slice A l.length c, .slice (some ⟨w.heap.size, 0, none⟩) 1 1]).run Try.prog (w.alloc (.cells #[.int .i64 u] 28)) = .ok (.slice A' (l.length + 1) c') w') ∧ QW N w' A' c' (l ++ [u]) ∧
      FrP (fun k => ∃ off, A = some ⟨k, off, none⟩) (w.alloc (.cells #[.int .i64 u] 28)) w' := by
  obtain ⟨i0, hi, hz0, hz1, hz2⟩ := info_parts word_info
  have hbx : Below w.heap.size w (w.alloc (.cells #[.int .i64 u] 28)) := (Below.refl _ _).alloc (Nat.le_refl _) _
  have HX := H.new hbx
  have hsz : (w.alloc (.cells #[.int .i64 u] 28)).heap.size = w.heap.size + 1 := by simp
  have hu := heap_alloc_new w (.cells #[.int .i64 u] 28)
  obtain ⟨W, hW⟩ : ∃ W, W = w.alloc (.cells #[.int .i64 u] 28) := ⟨_, rfl⟩
  rw [← hW] at HX hu hsz ⊢
  have hnews : ∀ j v, [Value.int .i64 u][j]? = some v → W.cell? ((⟨w.heap.size, 0, none⟩ : Addr).add j) = some v := fun j v hj => by
    have : j = 0 := by
      have := (List.getElem?_eq_some_iff.1 hj).1
      simpa using this
    subst this
    have hv : v = .int .i64 u := by simpa using hj.symm
    subst hv
    exact (blk_cell hu 0).trans rfl
  have hgrow : ∀ (olds : List Value), olds = l.map (Value.int .i64) → ∀ old : Nat, old < l.length + 1 → QW N (W.drew.alloc (.cells (olds.toArray ++ [Value.int .i64 u].toArray ++ Builtin.zeroCells (Value.int .i64 0).cells (grownCap W (l.length + 1) old 28 - (l.length + 1))) 28)) (some ⟨W.heap.size, 0, none⟩) (grownCap W (l.length + 1) old 28) (l ++ [u]) := fun olds ho old hold => by
    have hge := grownCap_ge W (l.length + 1) old 28
    refine .inr ⟨W.heap.size, 0, _, rfl, by omega, heap_alloc_new W.drew _, by rw [List.length_append, List.length_singleton]; omega, ?_, fun i hi => ?_⟩
    · simp only [Array.size_append, List.size_toArray, size_zeroCells, ho, List.length_map, List.length_singleton]
      show 0 + _ ≤ l.length + 1 + _ * 1
      omega
    · rw [List.length_append, List.length_singleton] at hi
      rw [Array.getElem?_append_left (by simp [ho]; omega)]
      rw [Nat.zero_add]
      have e : (olds.toArray ++ [Value.int .i64 u].toArray) = ((l ++ [u]).map (Value.int .i64)).toArray := by rw [ho]; simp
      rw [e]
      simp only [List.getElem?_toArray, List.getElem?_map]
      rw [List.getElem?_eq_getElem (by rw [List.length_append, List.length_singleton]; omega)]
      simp [List.getD, hi]
  rcases HX with ⟨rfl, rfl, rfl⟩ | ⟨q, off, cur, rfl, h1, h2, h3, h4, h5⟩
  · have hr := fun ty => run_append_nil (P := Try.prog) W 33 ty 28 i0 (.int .i64 0) Try.underlying33 hi hz0 ⟨w.heap.size, 0, none⟩ 1 1 [.int .i64 u] (by rw [hz1]; rfl) hnews (by omega) (by omega) (by rw [hz2]; omega)
    have hg := hgrow [] rfl 0 (by simp)
    simp only [List.length_nil, Nat.zero_add, List.nil_append] at hg
    exact ⟨_, _, _, fun ty => hr ty, hg, ⟨rfl, rfl, rfl, by simp, fun k hk _ => heap_alloc_old W.drew _ hk⟩⟩
  · by_cases hroom : l.length + 1 ≤ c
    · have hr := fun ty => run_append_room_cells (P := Try.prog) W 33 ty 28 i0 Try.underlying33 hi q off l.length c ⟨w.heap.size, 0, none⟩ 1 1 [.int .i64 u] (by rw [hz1]; rfl) hnews (fun v hv => by obtain rfl := List.mem_singleton.1 hv; rfl) hroom
        (fun j hj => by
          have : j = 0 := by simpa using hj
          subst this
          rw [hz1, blk_cell h2]
          show cur[off + l.length * 1 + 0]?.isSome = true
          rw [Array.getElem?_eq_getElem (show off + l.length * 1 + 0 < cur.size by omega)]; rfl)
        (fun j hj => blk_frozen h2 _)
      rw [hz1] at hr
      refine ⟨_, _, _, fun ty => hr ty, ?_, ?_⟩
      · show QW N (W.setCell ⟨q, off + l.length * 1, none⟩ (.int .i64 u)) _ _ _
        refine .inr ⟨q, off, cur.setIfInBounds (off + l.length * 1) (.int .i64 u), rfl, h1, by rw [blk_put h2 _ _ rfl], by rw [List.length_append, List.length_singleton]; exact hroom, by simp; exact h4, fun i hi => ?_⟩
        rw [List.length_append, List.length_singleton] at hi
        rw [Array.getElem?_setIfInBounds, getD_app]
        by_cases hil : i < l.length
        · rw [if_neg (by omega), if_pos hil]; exact h5 i hil
        · have : i = l.length := by omega
          subst this
          rw [if_pos (by omega), if_pos (by omega), if_neg (by omega)]
          simp
      · exact (FrP.ofFr (Fr.set W q _ _)).mono (fun k _ hk => ⟨off, by rw [show k = q from by simpa using hk]⟩)
    · have holds : ∀ j v, (l.map (Value.int .i64))[j]? = some v → W.cell? ((⟨q, off, none⟩ : Addr).add j) = some v := fun j v hj => by
        have hjl : j < l.length := by have := (List.getElem?_eq_some_iff.1 hj).1; simpa using this
        have hv : v = .int .i64 (l.getD j 0) := by
          rw [List.getElem?_map, List.getElem?_eq_getElem hjl] at hj
          simp [List.getD, hjl] at hj ⊢; exact hj.symm
        rw [hv, show (⟨q, off, none⟩ : Addr).add j = ⟨q, off + j, none⟩ from by unfold Addr.add; split <;> simp_all]
        rw [blk_cell h2]; exact h5 j hjl
      have hr := fun ty => run_append_grow (P := Try.prog) W 33 ty 28 i0 (.int .i64 0) Try.underlying33 hi hz0 ⟨q, off, none⟩ l.length c (l.map (Value.int .i64)) (by rw [hz1]; simp) holds ⟨w.heap.size, 0, none⟩ 1 1 [.int .i64 u] (by rw [hz1]; rfl) hnews (by omega) (by omega) (growslice_fits (by omega) (by rw [hz2]; omega))
      exact ⟨_, _, _, fun ty => hr ty, hgrow _ rfl c (by omega), ⟨rfl, rfl, rfl, by simp, fun k hk _ => heap_alloc_old W.drew _ hk⟩⟩
end
/-! ### What a search through a heap keeps -/
structure LInv (L : List OW) (rs : List Int) (Q Z : List Int) : Prop where
  key : ∀ z ∈ Z, isKey L z
  nd : Z.Nodup
  start : ∀ x ∈ rs, isKey L x → x ∈ Z ∨ x ∈ Q
  shut : ∀ o ∈ L, o.k ∈ Z → ∀ f ∈ o.o.fs, isKey L f → f ∈ Z ∨ f ∈ Q
theorem LInv.init (L : List OW) (rs : List Int) : LInv L rs rs [] := ⟨fun z hz => absurd hz (by simp), List.nodup_nil, fun x hx _ => .inr hx, fun o ho hz => absurd hz (by simp)⟩
theorem LInv.skip {L : List OW} {rs Q Z : List Int} {a : Int} (h : LInv L rs (a :: Q) Z) (ha : a ∈ Z ∨ ¬ isKey L a) : LInv L rs Q Z := by
  have hx : ∀ x, isKey L x → x ∈ Z ∨ x ∈ a :: Q → x ∈ Z ∨ x ∈ Q := fun x hk h1 => by
    rcases h1 with h1 | h1
    · exact .inl h1
    · rcases List.mem_cons.1 h1 with rfl | h1
      · exact .inl (ha.resolve_right (fun e => e hk))
      · exact .inr h1
  exact ⟨h.key, h.nd, fun x hr hk => hx x hk (h.start x hr hk), fun o ho hz f hf hk => hx f hk (h.shut o ho hz f hf hk)⟩
theorem LInv.add {L : List OW} {rs Q Z : List Int} {x : OW} (h : LInv L rs (x.k :: Q) Z) (hp : L.Pairwise fun x y => x.k ≠ y.k) (hx : x ∈ L) (hn : x.k ∉ Z) : LInv L rs (Q ++ x.o.fs) (Z ++ [x.k]) := by
  have hy : ∀ y, y ∈ Z ∨ y ∈ x.k :: Q → y ∈ Z ++ [x.k] ∨ y ∈ Q ++ x.o.fs := fun y h1 => by
    rcases h1 with h1 | h1
    · exact .inl (by simp [h1])
    · rcases List.mem_cons.1 h1 with rfl | h1
      · exact .inl (by simp)
      · exact .inr (by simp [h1])
  refine ⟨fun z hz => ?_, ?_, fun y hr hk => hy y (h.start y hr hk), fun o ho hz f hf hk => ?_⟩
  · rcases List.mem_append.1 hz with hz | hz
    · exact h.key z hz
    · obtain rfl := List.mem_singleton.1 hz; exact ⟨x, hx, rfl⟩
  · rw [List.nodup_append]
    exact ⟨h.nd, by simp, fun a ha b hb e => hn (by obtain rfl := List.mem_singleton.1 hb; rw [← e]; exact ha)⟩
  · rcases List.mem_append.1 hz with hz | hz
    · exact hy f (h.shut o ho hz f hf hk)
    · have : o = x := pw_eq OW.k hp ho hx (by simpa using hz)
      subst this
      exact .inr (by simp [hf])
theorem LInv.len {L : List OW} {rs Q Z : List Int} (h : LInv L rs Q Z) : Z.length ≤ L.length := by
  have := nodup_le Z (L.map OW.k) h.nd (fun x hx => by obtain ⟨o, ho, e⟩ := h.key x hx; exact List.mem_map.2 ⟨o, ho, e⟩)
  simpa using this
/-- At the end all that the roots lead to is met: of a heap that holds nothing else, all. -/
theorem LInv.all {L : List OW} {rs Z : List Int} (h : LInv L rs [] Z) (hp : L.Pairwise fun x y => x.k ≠ y.k) (hold : ∀ x ∈ L, x.o.old = true)
    (hl : ∀ K : Int → Prop, (∀ x ∈ rs, isKey L x → K x) → (∀ o ∈ L, K o.k → ∀ f ∈ o.o.fs, isKey L f → K f) → ∀ o ∈ L, K o.k) : sumC L Z = sumB L true := by
  have hall : ∀ o ∈ L, o.k ∈ Z := hl (· ∈ Z) (fun x hr hk => (h.start x hr hk).resolve_right (by simp)) (fun o ho hz f hf hk => (h.shut o ho hz f hf hk).resolve_right (by simp))
  rw [sumB_sum]
  have e : sumC L Z = ((Z.map (getO L)).map (valB true)).sum := by
    unfold sumC
    rw [List.map_map]
    congr 1
    refine List.map_congr_left fun z hz => ?_
    obtain ⟨o, ho, rfl⟩ := h.key z hz
    show (getO L o.k).o.cells = valB true (getO L o.k)
    rw [getO_of hp ho]
    unfold valB
    rw [if_pos (hold o ho)]
  rw [e]
  have hk : ∀ z ∈ Z, (getO L z).k = z := fun z hz => by
    obtain ⟨o, ho, rfl⟩ := h.key z hz
    rw [getO_of hp ho]
  refine sum_bij true (fun u v => u = v) (fun u v u' v' e1 e2 => by subst e1; subst e2; exact Iff.rfl) _ _ ?_ hp (fun x hx => ?_) (fun y hy => ?_)
  · rw [List.pairwise_map]
    exact h.nd.imp_of_mem fun {a b} ha hb hne e1 => hne (by rw [← hk a ha, ← hk b hb, e1])
  · obtain ⟨z, hz, rfl⟩ := List.mem_map.1 hx
    obtain ⟨o, ho, rfl⟩ := h.key z hz
    rw [getO_of hp ho]
    exact ⟨o, ho, rfl, rfl⟩
  · refine ⟨getO L y.k, List.mem_map.2 ⟨y.k, hall y hy, rfl⟩, ?_⟩
    show (getO L y.k).k = y.k
    rw [getO_of hp hy]
/-- A whole collection keeps what the roots lead to, and nothing else. -/
theorem coll_all {L : List OW} {h : HH} (hp : L.Pairwise fun x y => x.k ≠ y.k) (hs : OldShut L) (K : Int → Prop) (hr : ∀ x ∈ (collHH L h true).roots, isKey (collL L h true) x → K x) (hf : ∀ o ∈ collL L h true, K o.k → ∀ f ∈ o.o.fs, isKey (collL L h true) f → K f) : ∀ o ∈ collL L h true, K o.k := by
  have hkey : ∀ {u : Int}, u ∈ (collMv L h true).q → isKey (collL L h true) (ren (collMv L h true).tt u) := fun {u} hu => by
    obtain ⟨o, ho, rfl⟩ := (collMv_ok L h true).mem u hu
    exact ⟨_, collL_of hp ho hu, rfl⟩
  have key := coll_least (L := L) (h := h) (all := true) (K := fun u => u ∈ (collMv L h true).q ∧ K (ren (collMv L h true).tt u)) hp
    (fun x hx hk => by
      have hq := coll_roots (all := true) hx hk
      exact ⟨hq, hr _ (List.mem_map.2 ⟨x, hx, rfl⟩) (hkey hq)⟩)
    (fun e => by cases e)
    (fun o ho ⟨hq, hk⟩ f hff hkf => by
      have hq2 := coll_closed hp hs ho hq hff hkf
      exact ⟨hq2, hf _ (collL_of hp ho hq) hk _ (List.mem_map.2 ⟨f, hff, rfl⟩) (hkey hq2)⟩)
  intro o ho
  obtain ⟨o', ho', hq, rfl⟩ := collL_mem hp ho
  exact (key o'.k hq).2
end Go.Proofs.Ytlghnldlkbgajaa.S
