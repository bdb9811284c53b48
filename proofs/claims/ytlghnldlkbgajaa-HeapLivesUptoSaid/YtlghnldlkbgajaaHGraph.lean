
/- heap: what a collection keeps: what follows from the mover's steps. -/
import Derived.Test.YtlghnldlkbgajaaHColl0
namespace Go.Proofs.Ytlghnldlkbgajaa.S
set_option linter.unusedVariables false
set_option linter.unusedSimpArgs false

def isKey (L : List OW) (k : Int) : Prop := ∃ o ∈ L, o.k = k
theorem any_iff {L : List OW} {x : Int} : L.any (fun o => decide (o.k = x)) = true ↔ isKey L x := by
  rw [List.any_eq_true]
  exact ⟨fun ⟨o, ho, e⟩ => ⟨o, ho, by simpa using e⟩, fun ⟨o, ho, e⟩ => ⟨o, ho, by simpa using e⟩⟩
/-- The queue only grows, at its end. -/
theorem mvF_pre (L : List OW) (s : Mv) (x : Int) : s.q <+: (mvF L s x).2.q := by
  unfold mvF
  split
  · split
    · exact List.prefix_refl _
    · exact List.prefix_append _ _
  · exact List.prefix_refl _
theorem mvAll_pre (L : List OW) : ∀ (l : List Int) (s : Mv), s.q <+: (mvAll L s l).q
  | [], s => List.prefix_refl _
  | x :: l, s => (mvF_pre L s x).trans (mvAll_pre L l _)
theorem runStep_pre (L : List OW) (all : Bool) (s : Mv) (x : Int) : s.q <+: (runStep L all s x).q := by
  unfold runStep
  split
  · split
    · exact List.prefix_refl _
    · exact mvAll_pre L _ _
  · exact List.prefix_refl _
theorem runF_pre (L : List OW) (all : Bool) : ∀ (n i : Nat) (s : Mv), s.q <+: (runF L all n i s).q
  | 0, i, s => List.prefix_refl _
  | n + 1, i, s => by
    unfold runF
    split
    · exact (runStep_pre L all s _).trans (runF_pre L all n _ _)
    · exact List.prefix_refl _
/-- What is moved is in the queue. -/
theorem mvF_in {L : List OW} {s : Mv} (h : QOk L s) {x : Int} (hx : isKey L x) : x ∈ (mvF L s x).2.q := by
  unfold mvF
  rw [if_pos (any_iff.2 hx)]
  split
  · next n hn =>
    rw [← h.keys]
    unfold toGet at hn
    rw [Option.map_eq_some_iff] at hn
    obtain ⟨p, hp, -⟩ := hn
    have h1 := List.find?_some hp
    have h2 := List.mem_of_find?_eq_some hp
    exact List.mem_map.2 ⟨p, h2, by simpa using h1⟩
  · simp
theorem mvAll_in {L : List OW} : ∀ (l : List Int) {s : Mv}, QOk L s → ∀ x ∈ l, isKey L x → x ∈ (mvAll L s l).q
  | y :: l, s, h, x, hx, hk => by
    rcases List.mem_cons.1 hx with rfl | hx
    · exact (mvAll_pre L l _).subset (mvF_in h hk)
    · exact mvAll_in l (h.move y) x hx hk
/-- A set of words that holds what is moved holds the queue. -/
theorem mvF_least {L : List OW} {s : Mv} {K : Int → Prop} (h : ∀ x ∈ s.q, K x) {x : Int} (hx : isKey L x → K x) : ∀ y ∈ (mvF L s x).2.q, K y := by
  unfold mvF
  split
  · next ha =>
    split
    · exact h
    · intro y hy
      rcases List.mem_append.1 hy with hy | hy
      · exact h y hy
      · obtain rfl := List.mem_singleton.1 hy
        exact hx (any_iff.1 ha)
  · exact h
theorem mvAll_least {L : List OW} {K : Int → Prop} : ∀ (l : List Int) {s : Mv}, (∀ x ∈ s.q, K x) → (∀ x ∈ l, isKey L x → K x) → ∀ y ∈ (mvAll L s l).q, K y
  | [], s, h, _ => h
  | x :: l, s, h, hl => mvAll_least l (mvF_least h (hl x (by simp))) (fun y hy => hl y (by simp [hy]))
theorem runF_least {L : List OW} {all : Bool} {K : Int → Prop} (hK : ∀ o ∈ L, K o.k → skipB all o.o = false → ∀ f ∈ o.o.fs, isKey L f → K f) : ∀ (n i : Nat) {s : Mv}, (∀ x ∈ s.q, K x) → ∀ y ∈ (runF L all n i s).q, K y
  | 0, i, s, h => h
  | n + 1, i, s, h => by
    unfold runF
    split
    · next hlt =>
      refine runF_least hK n (i + 1) ?_
      unfold runStep
      split
      · next o ho =>
        have h1 := List.find?_some ho
        have h2 := List.mem_of_find?_eq_some ho
        have h3 : o.k = s.q.getD i 0 := by simpa using h1
        split
        · exact h
        · next hsk =>
          exact mvAll_least _ h (hK o h2 (by rw [h3]; exact h _ (by simp [List.getD, hlt])) (by simpa using hsk))
      · exact h
    · exact h
/-- Whatever is in the queue was gone through. -/
theorem runF_closed {L : List OW} {all : Bool} (hp : L.Pairwise fun x y => x.k ≠ y.k) : ∀ (n i : Nat) {s : Mv}, QOk L s → L.length + 1 ≤ n + i →
    (∀ j, j < i → j < s.q.length → ∀ o ∈ L, o.k = s.q.getD j 0 → skipB all o.o = false → ∀ f ∈ o.o.fs, isKey L f → f ∈ s.q) →
    ∀ o ∈ L, o.k ∈ (runF L all n i s).q → skipB all o.o = false → ∀ f ∈ o.o.fs, isKey L f → f ∈ (runF L all n i s).q
  | 0, i, s, hq, hn, hdone => by
    intro o ho hk hs f hf hkf
    obtain ⟨j, hj⟩ := List.mem_iff_getElem?.1 hk
    have hjl : j < s.q.length := (List.getElem?_eq_some_iff.1 hj).1
    have := hq.len
    exact hdone j (by omega) hjl o ho (by simp only [List.getD]; rw [show s.q[j]? = some o.k from hj]; rfl) hs f hf hkf
  | n + 1, i, s, hq, hn, hdone => by
    unfold runF
    split
    · next hlt =>
      refine runF_closed hp n (i + 1) (hq.step _) (by omega) ?_
      intro j hj hjl o ho hk hs f hf hkf
      have hpre := runStep_pre L all s (s.q.getD i 0)
      have hget : ∀ j, j < s.q.length → (runStep L all s (s.q.getD i 0)).q.getD j 0 = s.q.getD j 0 := fun j hj => by
        obtain ⟨t, ht⟩ := hpre
        rw [← ht]
        simp [List.getD, List.getElem?_append, hj]
      by_cases hji : j < i
      · rw [hget j (by omega)] at hk
        exact hpre.subset (hdone j hji (by omega) o ho hk hs f hf hkf)
      · obtain rfl : j = i := by omega
        rw [hget j hlt] at hk
        unfold runStep
        cases hfd : L.find? (fun o => decide (o.k = s.q.getD j 0)) with
        | none => exact absurd (List.find?_eq_none.1 hfd o ho) (by simp [hk])
        | some o' =>
          have h1 := List.find?_some hfd
          have h2 := List.mem_of_find?_eq_some hfd
          obtain rfl : o' = o := pw_eq OW.k hp h2 ho (by rw [hk]; simpa using h1)
          simp only []
          rw [if_neg (by rw [hs]; simp)]
          exact mvAll_in _ hq f hf hkf
    · next hlt =>
      intro o ho hk hs f hf hkf
      obtain ⟨j, hj⟩ := List.mem_iff_getElem?.1 hk
      have hjl : j < s.q.length := (List.getElem?_eq_some_iff.1 hj).1
      exact hdone j (by omega) hjl o ho (by simp only [List.getD]; rw [show s.q[j]? = some o.k from hj]; rfl) hs f hf hkf
def firstMv (L : List OW) (h : HH) (all : Bool) : Mv := if all then ⟨h.nx, [], []⟩ else mvAll L ⟨h.nx, [], []⟩ ((sortI (L.map (·.k))).filter (isOld L))
theorem firstMv_ok (L : List OW) (h : HH) (all : Bool) : QOk L (firstMv L h all) := by
  have h0 : QOk L ⟨h.nx, [], []⟩ := ⟨rfl, by simp, by simp⟩
  unfold firstMv
  split
  · exact h0
  · exact QOk.all _ h0
theorem collMv_eq (L : List OW) (h : HH) (all : Bool) : collMv L h all = runF L all (L.length + 1) 0 (mvAll L (firstMv L h all) h.roots) := rfl
theorem collMv_ok (L : List OW) (h : HH) (all : Bool) : QOk L (collMv L h all) := by rw [collMv_eq]; exact QOk.run _ _ (QOk.all _ (firstMv_ok L h all))
theorem collMv_mv (L : List OW) (h : HH) (all : Bool) : MvOk h.nx (collMv L h all) := by
  rw [collMv_eq]
  refine MvOk.run _ _ (MvOk.all _ ?_)
  unfold firstMv
  split
  · exact MvOk.nil _
  · exact MvOk.all _ (MvOk.nil _)
theorem coll_roots {L : List OW} {h : HH} {all : Bool} {x : Int} (hx : x ∈ h.roots) (hk : isKey L x) : x ∈ (collMv L h all).q := by
  rw [collMv_eq]
  exact (runF_pre L all _ _ _).subset (mvAll_in _ (firstMv_ok L h all) x hx hk)
theorem coll_old {L : List OW} {h : HH} (hp : L.Pairwise fun x y => x.k ≠ y.k) {o : OW} (ho : o ∈ L) (hold : o.o.old = true) : o.k ∈ (collMv L h false).q := by
  rw [collMv_eq]
  refine (runF_pre L false _ _ _).subset ((mvAll_pre L h.roots _).subset ?_)
  unfold firstMv
  rw [if_neg (by simp)]
  refine mvAll_in _ ⟨rfl, by simp, by simp⟩ _ (List.mem_filter.2 ⟨sortI_mem.2 (List.mem_map.2 ⟨o, ho, rfl⟩), ?_⟩) ⟨o, ho, rfl⟩
  unfold isOld
  rw [getO_of hp ho, hold]
/-- Old ones that were not Set lead to old ones alone. -/
def OldShut (L : List OW) : Prop := ∀ o ∈ L, o.o.old = true → o.o.noted = false → ∀ f ∈ o.o.fs, ∀ p ∈ L, p.k = f → p.o.old = true
theorem coll_closed {L : List OW} {h : HH} {all : Bool} (hp : L.Pairwise fun x y => x.k ≠ y.k) (hs : OldShut L) {o : OW} (ho : o ∈ L) (hk : o.k ∈ (collMv L h all).q) {f : Int} (hf : f ∈ o.o.fs) (hkf : isKey L f) : f ∈ (collMv L h all).q := by
  by_cases hsk : skipB all o.o = true
  · have h1 : all = false ∧ o.o.old = true ∧ o.o.noted = false := by
      unfold skipB at hsk
      simp at hsk
      exact ⟨hsk.1.1, hsk.1.2, hsk.2⟩
    obtain ⟨rfl, h2, h3⟩ := h1
    obtain ⟨p, hpL, e⟩ := hkf
    rw [← e]
    exact coll_old hp hpL (hs o ho h2 h3 f hf p hpL e)
  · rw [collMv_eq] at hk ⊢
    exact runF_closed hp _ _ (QOk.all _ (firstMv_ok L h all)) (by omega) (fun j hj => by omega) o ho hk (by simpa using hsk) f hf hkf
theorem coll_least {L : List OW} {h : HH} {all : Bool} (hp : L.Pairwise fun x y => x.k ≠ y.k) {K : Int → Prop} (hr : ∀ x ∈ h.roots, isKey L x → K x) (ho : all = false → ∀ o ∈ L, o.o.old = true → K o.k) (hf : ∀ o ∈ L, K o.k → ∀ f ∈ o.o.fs, isKey L f → K f) : ∀ y ∈ (collMv L h all).q, K y := by
  rw [collMv_eq]
  refine runF_least (fun o hoL hk _ => hf o hoL hk) _ _ (mvAll_least _ ?_ hr)
  unfold firstMv
  split
  · simp
  · next ha =>
    refine mvAll_least _ (by simp) (fun x hx hkx => ?_)
    obtain ⟨o, hoL, e⟩ := hkx
    have h1 := (List.mem_filter.1 hx).2
    unfold isOld at h1
    rw [← e, getO_of hp hoL] at h1
    rw [← e]
    exact ho (by simpa using ha) o hoL h1
/-- Names that are kept are named anew, others stay. -/
theorem ren_key {L : List OW} {h : HH} {all : Bool} {i : Nat} (hi : i < (collMv L h all).q.length) : ren (collMv L h all).tt ((collMv L h all).q.getD i 0) = h.nx + 2 * (i : Int) := by
  unfold ren
  rw [(collMv_mv L h all).at (collMv_ok L h all) hi]
  rfl
theorem ren_no {L : List OW} {h : HH} {all : Bool} {x : Int} (hx : x ∉ (collMv L h all).q) : ren (collMv L h all).tt x = x := by
  unfold ren
  cases hg : toGet (collMv L h all).tt x with
  | none => rfl
  | some n =>
    exfalso
    unfold toGet at hg
    rw [Option.map_eq_some_iff] at hg
    obtain ⟨p, hp, -⟩ := hg
    have h1 := List.find?_some hp
    have h2 := List.mem_of_find?_eq_some hp
    exact hx (by rw [← (collMv_ok L h all).keys]; exact List.mem_map.2 ⟨p, h2, by simpa using h1⟩)
/-- A kept object under its new name. -/
theorem collL_of {L : List OW} {h : HH} {all : Bool} (hp : L.Pairwise fun x y => x.k ≠ y.k) {o : OW} (ho : o ∈ L) (hk : o.k ∈ (collMv L h all).q) : { o with k := ren (collMv L h all).tt o.k, o := o.o.done (collMv L h all).tt } ∈ collL L h all := by
  obtain ⟨i, hi⟩ := List.mem_iff_getElem?.1 hk
  have hil : i < (collMv L h all).q.length := (List.getElem?_eq_some_iff.1 hi).1
  have hg : (collMv L h all).q.getD i 0 = o.k := by simp only [List.getD]; rw [hi]; rfl
  have hr := ren_key hil
  rw [hg] at hr
  unfold collL newL
  rw [List.mem_iff_getElem?]
  refine ⟨i, ?_⟩
  rw [List.getElem?_mapIdx, hi]
  simp only [Option.map_some, newO, getO_of hp ho, hr]
theorem collL_mem {L : List OW} {h : HH} {all : Bool} (hp : L.Pairwise fun x y => x.k ≠ y.k) {y : OW} (hy : y ∈ collL L h all) : ∃ o ∈ L, o.k ∈ (collMv L h all).q ∧ y = { o with k := ren (collMv L h all).tt o.k, o := o.o.done (collMv L h all).tt } := by
  obtain ⟨j, hj, rfl⟩ := newL_mem hy
  have hm : (collMv L h all).q.getD j 0 ∈ (collMv L h all).q := by simp [List.getD, hj]
  obtain ⟨o, ho, e⟩ := (collMv_ok L h all).mem _ hm
  refine ⟨o, ho, by rw [e]; exact hm, ?_⟩
  unfold newO
  rw [← e, getO_of hp ho, e, ren_key hj]
theorem collL_len (L : List OW) (h : HH) (all : Bool) : (collL L h all).length = (collMv L h all).q.length := by unfold collL newL; simp
theorem coll_foot {g b kb : Nat} {R : Option Addr} {L : List OW} {h : HH} {all : Bool} (hp : L.Pairwise fun x y => x.k ≠ y.k) {k : Nat} (hk : Foot g kb R (collL L h all) k) : Foot g b R L k ∨ k = kb := by
  rcases hk with h1 | h1 | h1 | ⟨y, hy, h1⟩
  · exact .inl (.inl h1)
  · exact .inr h1
  · exact .inl (.inr (.inr (.inl h1)))
  · obtain ⟨o, ho, -, rfl⟩ := collL_mem hp hy
    refine .inl (.inr (.inr (.inr ⟨o, ho, ?_⟩)))
    rcases h1 with h1 | ⟨h1, h2⟩
    · exact .inl h1
    · exact .inr ⟨(done_nil _ _).1 h1, h2⟩
theorem coll_shut {L : List OW} {h : HH} {all : Bool} (hp : L.Pairwise fun x y => x.k ≠ y.k) : OldShut (collL L h all) := fun o ho _ _ f _ p hp' _ => by
  obtain ⟨o', -, -, rfl⟩ := collL_mem hp hp'
  rfl
end Go.Proofs.Ytlghnldlkbgajaa.S
