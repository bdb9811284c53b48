/- heap: the program's heap beside the document's: what both keep (plain lists). heap: the program's heap beside the document's: collections (plain lists). heap: the program's heap beside the document's: Collect, room, what is made, Set (plain lists). -/
import Derived.Test.YtlghnldlkbgajaaHPl2
import Derived.Test.YtlghnldlkbgajaaHRfC
import Derived.Test.YtlghnldlkbgajaaHRf18
namespace Go.Proofs.Ytlghnldlkbgajaa.S
open Go.RowKit Go.Proofs.YtlghnldlkbgajaaW.PrintWords Go.Proofs.YtlghnldlkbgajaaW.PrintLast Go.Proofs.YtlghnldlkbgajaaW.PrintMore
set_option linter.unusedVariables false
set_option linter.unusedSimpArgs false
/-! ### Two lists of words, place by place -/
def All2 (R : Int → Int → Prop) (a b : List Int) : Prop := a.length = b.length ∧ ∀ i, i < a.length → R (a.getD i 0) (b.getD i 0)
theorem All2.nil (R : Int → Int → Prop) : All2 R [] [] := ⟨rfl, fun i hi => absurd hi (by simp)⟩
theorem getD_app (a b : List Int) (i : Nat) : (a ++ b).getD i 0 = if i < a.length then a.getD i 0 else b.getD (i - a.length) 0 := by
  simp only [List.getD, List.getElem?_append]
  split <;> rfl
theorem All2.app {R : Int → Int → Prop} {a b c d : List Int} (h : All2 R a b) (k : All2 R c d) : All2 R (a ++ c) (b ++ d) := by
  refine ⟨by rw [List.length_append, List.length_append, h.1, k.1], fun i hi => ?_⟩
  rw [List.length_append] at hi
  rw [getD_app, getD_app, ← h.1]
  split
  · next h1 => exact h.2 i h1
  · next h1 => exact k.2 _ (by omega)
theorem All2.take {R : Int → Int → Prop} {a b : List Int} (h : All2 R a b) (n : Nat) : All2 R (a.take n) (b.take n) := by
  refine ⟨by rw [List.length_take, List.length_take, h.1], fun i hi => ?_⟩
  rw [List.length_take] at hi
  have := h.2 i (by omega)
  simp only [List.getD, List.getElem?_take] at this ⊢
  rw [if_pos (by omega), if_pos (by omega)]
  exact this
theorem All2.drop {R : Int → Int → Prop} {a b : List Int} (h : All2 R a b) (n : Nat) : All2 R (a.drop n) (b.drop n) := by
  refine ⟨by rw [List.length_drop, List.length_drop, h.1], fun i hi => ?_⟩
  rw [List.length_drop] at hi
  have := h.2 (n + i) (by omega)
  simp only [List.getD, List.getElem?_drop] at this ⊢
  exact this
theorem getD_set (a : List Int) (i j : Nat) (v : Int) : (a.set i v).getD j 0 = if i = j ∧ j < a.length then v else a.getD j 0 := by
  simp only [List.getD, List.getElem?_set]
  by_cases h : i = j
  · subst h
    by_cases h2 : i < a.length
    · simp [h2]
    · simp [h2]
  · simp [h]
theorem All2.set {R : Int → Int → Prop} {a b : List Int} (h : All2 R a b) (i : Nat) {u v : Int} (huv : R u v) : All2 R (a.set i u) (b.set i v) := by
  refine ⟨by simp [h.1], fun j hj => ?_⟩
  have hj' : j < a.length := by simpa using hj
  have hk := h.1
  rw [getD_set, getD_set]
  by_cases hij : i = j
  · rw [if_pos ⟨hij, hj'⟩, if_pos ⟨hij, by omega⟩]; exact huv
  · rw [if_neg (fun e => hij e.1), if_neg (fun e => hij e.1)]; exact h.2 j hj'
theorem getD_in {a : List Int} {i : Nat} (hi : i < a.length) : a.getD i 0 ∈ a := by
  simp [List.getD, hi]
theorem getD_mapI (a : List Int) (f : Int → Int) {i : Nat} (hi : i < a.length) : (a.map f).getD i 0 = f (a.getD i 0) := by
  simp [List.getD, hi]
theorem All2.map {R R' : Int → Int → Prop} {a b : List Int} (h : All2 R a b) (f g : Int → Int) (hf : ∀ u v, u ∈ a → v ∈ b → R u v → R' (f u) (g v)) : All2 R' (a.map f) (b.map g) := by
  refine ⟨by simp [h.1], fun i hi => ?_⟩
  have hi' : i < a.length := by simpa using hi
  have hb : i < b.length := by rw [← h.1]; exact hi'
  rw [getD_mapI a f hi', getD_mapI b g hb]
  exact hf _ _ (getD_in hi') (getD_in hb) (h.2 i hi')
theorem All2.mono {R R' : Int → Int → Prop} {a b : List Int} (h : All2 R a b) (hr : ∀ u v, u ∈ a → v ∈ b → R u v → R' u v) : All2 R' a b := by
  have := h.map (R' := R') id id hr
  simpa using this
theorem All2.left {R : Int → Int → Prop} {a b : List Int} (h : All2 R a b) {u : Int} (hu : u ∈ a) : ∃ v ∈ b, R u v := by
  obtain ⟨i, hi, rfl⟩ := List.mem_iff_getElem.1 hu
  have := h.2 i hi
  rw [show a.getD i 0 = a[i] from by simp [List.getD, hi]] at this
  exact ⟨_, getD_in (by rw [← h.1]; exact hi), this⟩
theorem All2.right {R : Int → Int → Prop} {a b : List Int} (h : All2 R a b) {v : Int} (hv : v ∈ b) : ∃ u ∈ a, R u v := by
  obtain ⟨i, hi, rfl⟩ := List.mem_iff_getElem.1 hv
  have hi' : i < a.length := by rw [h.1]; exact hi
  have := h.2 i hi'
  rw [show b.getD i 0 = b[i] from by simp [List.getD, hi]] at this
  exact ⟨_, getD_in hi', this⟩
theorem All2.all {R : Int → Int → Prop} {a b : List Int} (h : All2 R a b) {p q : Int → Bool} (hp : ∀ u v, R u v → p u = q v) : a.all p = b.all q := by
  rw [Bool.eq_iff_iff, List.all_eq_true, List.all_eq_true]
  constructor
  · intro k v hv
    obtain ⟨u, hu, hr⟩ := h.right hv
    rw [← hp u v hr]; exact k u hu
  · intro k u hu
    obtain ⟨v, hv, hr⟩ := h.left hu
    rw [hp u v hr]; exact k v hv
/-! ### Sums -/
def valB (b : Bool) (x : OW) : Int := if x.o.old = b then x.o.cells else 0
theorem sumB_sum (L : List OW) (b : Bool) : sumB L b = (L.map (valB b)).sum := by
  have : ∀ (L : List OW) (s : Int), L.foldl (fun s x => if x.o.old = b then s + x.o.cells else s) s = s + (L.map (valB b)).sum := by
    intro L
    induction L with
    | nil => intro s; simp
    | cons x L ih =>
      intro s
      rw [List.foldl_cons, ih, List.map_cons, List.sum_cons]
      unfold valB
      split <;> omega
  unfold sumB
  rw [this]
  omega
theorem sum_bij (b : Bool) (R : Int → Int → Prop) (inj : ∀ u v u' v', R u v → R u' v' → (u = u' ↔ v = v')) : ∀ (L M : List OW), L.Pairwise (fun x y => x.k ≠ y.k) → M.Pairwise (fun x y => x.k ≠ y.k) →
    (∀ x ∈ L, ∃ y ∈ M, R x.k y.k ∧ valB b x = valB b y) → (∀ y ∈ M, ∃ x ∈ L, R x.k y.k) → (L.map (valB b)).sum = (M.map (valB b)).sum
  | [], M, _, _, _, h2 => by
    cases M with
    | nil => rfl
    | cons y M => obtain ⟨x, hx, _⟩ := h2 y (by simp); cases hx
  | x :: L, M, hl, hm, h1, h2 => by
    obtain ⟨y, hy, hxy, hv⟩ := h1 x (by simp)
    obtain ⟨s, t, rfl⟩ := List.append_of_mem hy
    rw [List.pairwise_cons] at hl
    have hm2 := List.pairwise_append.1 hm
    have hm3 := List.pairwise_cons.1 hm2.2.1
    have ih := sum_bij b R inj L (s ++ t) hl.2 (List.pairwise_append.2 ⟨hm2.1, hm3.2, fun a ha c hc => hm2.2.2 a ha c (by simp [hc])⟩)
      (fun x' hx' => by
        obtain ⟨y', hy', hr, hv'⟩ := h1 x' (by simp [hx'])
        refine ⟨y', ?_, hr, hv'⟩
        have hne : y'.k ≠ y.k := fun e => hl.1 x' hx' ((inj _ _ _ _ hxy hr).2 e.symm)
        rcases List.mem_append.1 hy' with h | h
        · exact List.mem_append.2 (.inl h)
        · rcases List.mem_cons.1 h with rfl | h
          · exact absurd rfl hne
          · exact List.mem_append.2 (.inr h))
      (fun y' hy' => by
        obtain ⟨x', hx', hr⟩ := h2 y' (by rcases List.mem_append.1 hy' with h | h <;> simp [h])
        refine ⟨x', ?_, hr⟩
        rcases List.mem_cons.1 hx' with rfl | h
        · exfalso
          have e : y.k = y'.k := (inj _ _ _ _ hxy hr).1 rfl
          rcases List.mem_append.1 hy' with h | h
          · exact hm2.2.2 y' h y (by simp) e.symm
          · exact hm3.1 y' h e
        · exact h)
    rw [List.map_cons, List.sum_cons, ih, hv, List.map_append, List.map_append, List.map_cons, List.sum_append, List.sum_append, List.sum_cons]
    omega
/-! ### Both heaps -/
def constW (u : Int) : Prop := u % 2 = 1 ∨ (u ≤ 0 ∧ -2097152 ≤ u)
def WR (ρ : Int → Int → Prop) (u v : Int) : Prop := ρ u v ∨ (u = v ∧ constW u)
structure SimO (ρ : Int → Int → Prop) (a b : PO) : Prop where
  kind : a.kind = b.kind
  text : a.text = b.text
  old : a.old = b.old
  noted : a.noted = b.noted
  fs : All2 (WR ρ) a.fs b.fs
theorem SimO.cells {ρ : Int → Int → Prop} {a b : PO} (h : SimO ρ a b) : a.cells = b.cells := by unfold PO.cells; rw [h.fs.1, h.text]
theorem SimO.fine {ρ : Int → Int → Prop} {a b : PO} (h : SimO ρ a b) (f : a.Fine) : b.Fine := by
  refine ⟨by rw [← h.fs.1]; exact f.fl, by rw [← h.text]; exact f.tx, fun k => ?_, fun k => ?_⟩
  · have := f.kt (by rw [h.kind]; exact k)
    have h1 := h.fs.1
    rw [this] at h1
    exact List.length_eq_zero_iff.1 h1.symm
  · rw [← h.text]; exact f.kf (by rw [h.kind]; exact k)
structure Sim (ρ : Int → Int → Prop) (L : List OW) (h : HH) (M : List OW) (k : RS) : Prop where
  dom : ∀ u v, ρ u v → ∃ x ∈ L, ∃ y ∈ M, x.k = u ∧ y.k = v ∧ SimO ρ x.o y.o
  lft : ∀ x ∈ L, ∃ v, ρ x.k v
  rgt : ∀ y ∈ M, ∃ u, ρ u y.k
  inj : ∀ u v u' v', ρ u v → ρ u' v' → (u = u' ↔ v = v')
  roots : All2 (WR ρ) h.roots k.roots
  pl : L.Pairwise fun x y => x.k ≠ y.k
  pm : M.Pairwise fun x y => x.k ≠ y.k
  ll : ∀ x ∈ L, 0 < x.k ∧ x.k < h.nx ∧ x.k % 2 = 0
  lm : ∀ y ∈ M, 0 < y.k ∧ y.k < k.nx ∧ y.k % 2 = 0
  nl : 0 < h.nx ∧ h.nx % 2 = 0
  nm : 0 < k.nx ∧ k.nx % 2 = 0
  kd : ∀ x ∈ L, 0 < x.o.kind
  fine : ∀ x ∈ L, x.o.Fine
  shut : OldShut L
  room : h.room0 = k.young ∧ h.room1 = k.old
  has : h.has0 = sumB L false ∧ h.has1 = sumB L true
  cnt : h.minor = k.minor ∧ h.major = k.major
  sp : h.spent = k.spent
theorem Sim.fineM {ρ : Int → Int → Prop} {L M : List OW} {h : HH} {k : RS} (s : Sim ρ L h M k) : ∀ y ∈ M, y.o.Fine := fun y hy => by
  obtain ⟨u, hu⟩ := s.rgt y hy
  obtain ⟨x, hx, y', hy', -, e, ho⟩ := s.dom _ _ hu
  have : y' = y := pw_eq OW.k s.pm hy' hy e
  exact this ▸ ho.fine (s.fine x hx)
theorem Sim.sum {ρ : Int → Int → Prop} {L M : List OW} {h : HH} {k : RS} (s : Sim ρ L h M k) (b : Bool) : sumB L b = sumB M b := by
  rw [sumB_sum, sumB_sum]
  refine sum_bij b ρ s.inj L M s.pl s.pm (fun x hx => ?_) (fun y hy => ?_)
  · obtain ⟨v, hv⟩ := s.lft x hx
    obtain ⟨x', hx', y, hy, e, e2, ho⟩ := s.dom _ _ hv
    have : x' = x := pw_eq OW.k s.pl hx' hx e
    subst this
    exact ⟨y, hy, by rw [e2]; exact hv, by unfold valB; rw [ho.old, ho.cells]⟩
  · obtain ⟨u, hu⟩ := s.rgt y hy
    obtain ⟨x, hx, y', hy', e, e2, ho⟩ := s.dom _ _ hu
    exact ⟨x, hx, by rw [e]; exact hu⟩
theorem Sim.lkey {ρ : Int → Int → Prop} {L M : List OW} {h : HH} {k : RS} (s : Sim ρ L h M k) {u v : Int} (hr : ρ u v) : isKey L u ∧ isKey M v := by
  obtain ⟨x, hx, y, hy, e, e2, -⟩ := s.dom _ _ hr
  exact ⟨⟨x, hx, e⟩, ⟨y, hy, e2⟩⟩
theorem Sim.noL {ρ : Int → Int → Prop} {L M : List OW} {h : HH} {k : RS} (s : Sim ρ L h M k) {u : Int} (hc : constW u) : ¬ isKey L u := fun ⟨x, hx, e⟩ => by
  have := s.ll x hx
  rw [e] at this
  rcases hc with h | h <;> omega
theorem Sim.noM {ρ : Int → Int → Prop} {L M : List OW} {h : HH} {k : RS} (s : Sim ρ L h M k) {u : Int} (hc : constW u) : ¬ isKey M u := fun ⟨x, hx, e⟩ => by
  have := s.lm x hx
  rw [e] at this
  rcases hc with h | h <;> omega
theorem Sim.wl {ρ : Int → Int → Prop} {L M : List OW} {h : HH} {k : RS} (s : Sim ρ L h M k) {u v : Int} (hr : WR ρ u v) (hk : isKey L u) : ρ u v := by
  rcases hr with hr | ⟨-, hc⟩
  · exact hr
  · exact absurd hk (s.noL hc)
theorem Sim.wm {ρ : Int → Int → Prop} {L M : List OW} {h : HH} {k : RS} (s : Sim ρ L h M k) {u v : Int} (hr : WR ρ u v) (hk : isKey M v) : ρ u v := by
  rcases hr with hr | ⟨rfl, hc⟩
  · exact hr
  · exact absurd hk (s.noM hc)
/-- Those of a pair. -/
theorem Sim.at {ρ : Int → Int → Prop} {L M : List OW} {h : HH} {k : RS} (s : Sim ρ L h M k) {x y : OW} (hx : x ∈ L) (hy : y ∈ M) (hr : ρ x.k y.k) : SimO ρ x.o y.o := by
  obtain ⟨x', hx', y', hy', e, e2, ho⟩ := s.dom _ _ hr
  have h1 : x' = x := pw_eq OW.k s.pl hx' hx e
  have h2 : y' = y := pw_eq OW.k s.pm hy' hy e2
  subst h1; subst h2
  exact ho
theorem Sim.pairL {ρ : Int → Int → Prop} {L M : List OW} {h : HH} {k : RS} (s : Sim ρ L h M k) {x : OW} (hx : x ∈ L) : ∃ y ∈ M, ρ x.k y.k ∧ SimO ρ x.o y.o := by
  obtain ⟨v, hv⟩ := s.lft x hx
  obtain ⟨x', hx', y', hy', e, e2, ho⟩ := s.dom _ _ hv
  have h1 : x' = x := pw_eq OW.k s.pl hx' hx e
  subst h1
  exact ⟨y', hy', by rw [e2]; exact hv, ho⟩
theorem Sim.pairM {ρ : Int → Int → Prop} {L M : List OW} {h : HH} {k : RS} (s : Sim ρ L h M k) {y : OW} (hy : y ∈ M) : ∃ x ∈ L, ρ x.k y.k ∧ SimO ρ x.o y.o := by
  obtain ⟨u, hu⟩ := s.rgt y hy
  obtain ⟨x', hx', y', hy', e, e2, ho⟩ := s.dom _ _ hu
  have h1 : y' = y := pw_eq OW.k s.pm hy' hy e2
  subst h1
  exact ⟨x', hx', by rw [e]; exact hu, ho⟩
theorem Sim.there {ρ : Int → Int → Prop} {L M : List OW} {h : HH} {k : RS} (s : Sim ρ L h M k) {u v : Int} (hr : WR ρ u v) : thereB L u = true ∧ thereB M v = true := by
  unfold thereB
  rcases hr with hr | ⟨rfl, hc⟩
  · obtain ⟨h1, h2⟩ := s.lkey hr
    rw [any_iff.2 h1, any_iff.2 h2]
    simp
  · rcases hc with h | ⟨h1, h2⟩
    · rw [decide_eq_true h]; simp
    · rw [decide_eq_true h1, decide_eq_true h2]; simp
/-! ### What a move leaves -/
theorem ren_st {nx : Int} {S : List OW} (hp : S.Pairwise fun x y => x.k ≠ y.k) {j : Nat} (hj : j < S.length) : ren (stT nx S) S[j].k = nx + 2 * (j : Int) := by
  unfold ren
  rw [toGet_mem (v := nx + 2 * (j : Int)) ?_ ?_]
  · rfl
  · have : ((stT nx S).map (·.1)).Pairwise (· ≠ ·) := by rw [stT_keys, List.pairwise_map]; exact hp
    rw [List.pairwise_map] at this
    exact this
  · unfold stT
    rw [List.mem_iff_getElem?]
    exact ⟨j, by rw [List.getElem?_mapIdx, List.getElem?_eq_getElem hj]; rfl⟩
theorem ren_stNo {nx : Int} {S : List OW} {x : Int} (h : ∀ y ∈ S, y.k ≠ x) : ren (stT nx S) x = x := by
  unfold ren
  cases hg : toGet (stT nx S) x with
  | none => rfl
  | some n =>
    exfalso
    unfold toGet at hg
    rw [Option.map_eq_some_iff] at hg
    obtain ⟨p, hp, -⟩ := hg
    have h1 := List.find?_some hp
    have h2 := List.mem_of_find?_eq_some hp
    have h3 : p.1 ∈ (stT nx S).map (·.1) := List.mem_map.2 ⟨p, h2, rfl⟩
    rw [stT_keys] at h3
    obtain ⟨y, hy, e⟩ := List.mem_map.1 h3
    exact h y hy (by rw [e]; simpa using h1)
theorem movL_of {nx : Int} {S : List OW} (hp : S.Pairwise fun x y => x.k ≠ y.k) {y : OW} (hy : y ∈ S) : { y with k := ren (stT nx S) y.k, o := y.o.done (stT nx S) } ∈ movL nx S := by
  obtain ⟨j, hj, rfl⟩ := List.mem_iff_getElem.1 hy
  rw [ren_st hp hj, List.mem_iff_getElem]
  exact ⟨j, by rw [movL_len]; exact hj, movL_get nx S hj⟩
theorem movL_mem {nx : Int} {S : List OW} (hp : S.Pairwise fun x y => x.k ≠ y.k) {y : OW} (hy : y ∈ movL nx S) : ∃ o ∈ S, y = { o with k := ren (stT nx S) o.k, o := o.o.done (stT nx S) } := by
  obtain ⟨j, hj, rfl⟩ := List.mem_iff_getElem.1 hy
  rw [movL_len] at hj
  exact ⟨S[j], List.getElem_mem hj, by rw [movL_get nx S hj, ren_st hp hj]⟩
theorem ren_inj {L : List OW} {h : HH} {all : Bool} {u u' : Int} (hu : u ∈ (collMv L h all).q) (hu' : u' ∈ (collMv L h all).q) (e : ren (collMv L h all).tt u = ren (collMv L h all).tt u') : u = u' := by
  obtain ⟨i, hi, rfl⟩ := List.mem_iff_getElem.1 hu
  obtain ⟨j, hj, rfl⟩ := List.mem_iff_getElem.1 hu'
  have h1 := ren_key (L := L) (h := h) (all := all) hi
  have h2 := ren_key (L := L) (h := h) (all := all) hj
  rw [show (collMv L h all).q.getD i 0 = (collMv L h all).q[i] from by simp [List.getD, hi]] at h1
  rw [show (collMv L h all).q.getD j 0 = (collMv L h all).q[j] from by simp [List.getD, hj]] at h2
  rw [h1, h2] at e
  have : i = j := by omega
  subst this
  rfl
theorem st_inj {nx : Int} {S : List OW} (hp : S.Pairwise fun x y => x.k ≠ y.k) {y y' : OW} (hy : y ∈ S) (hy' : y' ∈ S) (e : ren (stT nx S) y.k = ren (stT nx S) y'.k) : y.k = y'.k := by
  obtain ⟨i, hi, rfl⟩ := List.mem_iff_getElem.1 hy
  obtain ⟨j, hj, rfl⟩ := List.mem_iff_getElem.1 hy'
  rw [ren_st hp hi, ren_st hp hj] at e
  have : i = j := by omega
  subst this
  rfl
theorem collL_keys (L : List OW) (h : HH) (all : Bool) : (collL L h all).Pairwise fun x y => x.k ≠ y.k := by
  unfold collL newL
  rw [List.pairwise_iff_getElem]
  intro i j hi hj hij
  simp only [List.getElem_mapIdx, newO]
  omega
theorem collL_low {L : List OW} {h : HH} {all : Bool} (h0 : 0 < h.nx) (h2 : h.nx % 2 = 0) {x : OW} (hx : x ∈ collL L h all) : 0 < x.k ∧ x.k < (collHH L h all).nx ∧ x.k % 2 = 0 := by
  obtain ⟨j, hj, rfl⟩ := newL_mem hx
  have hn : (collHH L h all).nx = h.nx + 2 * ((collMv L h all).q.length : Int) := (collMv_mv L h all).nx
  rw [hn]
  show 0 < h.nx + 2 * (j : Int) ∧ h.nx + 2 * (j : Int) < h.nx + 2 * ((collMv L h all).q.length : Int) ∧ (h.nx + 2 * (j : Int)) % 2 = 0
  omega
theorem collL_old {L : List OW} {h : HH} {all : Bool} (hp : L.Pairwise fun x y => x.k ≠ y.k) : ∀ x ∈ collL L h all, x.o.old = true := fun x hx => by
  obtain ⟨o, -, -, rfl⟩ := collL_mem hp hx
  rfl
theorem sumB_none {L : List OW} (h : ∀ x ∈ L, x.o.old = true) : sumB L false = 0 := by
  rw [sumB_sum]
  induction L with
  | nil => rfl
  | cons x L ih =>
    rw [List.map_cons, List.sum_cons, ih (fun y hy => h y (by simp [hy]))]
    unfold valB
    rw [h x (by simp)]
    rfl
theorem sumB_allOld {L : List OW} (h : ∀ x ∈ L, x.o.old = true) : sumB L true = (L.map fun x => x.o.cells).sum := by
  rw [sumB_sum]
  congr 1
  refine List.map_congr_left fun x hx => ?_
  unfold valB
  rw [h x hx]
  rfl
theorem sumC_coll {L : List OW} {h : HH} {all : Bool} : sumC L (collMv L h all).q = ((collL L h all).map fun x => x.o.cells).sum := by
  unfold sumC collL newL
  congr 1
  apply List.ext_getElem
  · simp
  · intro i h1 h2
    simp only [List.getElem_map, List.getElem_mapIdx, newO, done_cells]
end Go.Proofs.Ytlghnldlkbgajaa.S
namespace Go.Proofs.Ytlghnldlkbgajaa.S
open Go.RowKit Go.Proofs.YtlghnldlkbgajaaW.PrintWords Go.Proofs.YtlghnldlkbgajaaW.PrintLast Go.Proofs.YtlghnldlkbgajaaW.PrintMore
set_option linter.unusedVariables false
set_option linter.unusedSimpArgs false
variable {ρ : Int → Int → Prop} {L M : List OW} {h : HH} {k : RS}
/-- The pairs behind a collection. -/
def rhoC (ρ : Int → Int → Prop) (q : List Int) (tt st : List (Int × Int)) (u' v' : Int) : Prop := ∃ u v, ρ u v ∧ u ∈ q ∧ u' = ren tt u ∧ v' = ren st v
theorem Sim.moved (s : Sim ρ L h M k) (all : Bool) (S : List OW) (hS : ∀ y ∈ S, y ∈ M) (hnd : S.Pairwise fun x y => x.k ≠ y.k)
    (heq : ∀ u v, ρ u v → (u ∈ (collMv L h all).q ↔ ∃ y ∈ S, y.k = v)) {k1 : RS}
    (hk : k1.young = k.young ∧ k1.old = k.old ∧ k1.roots = k.roots ∧ k1.nx = k.nx ∧ k1.minor = (collHH L h all).minor ∧ k1.major = (collHH L h all).major ∧ k1.spent = k.spent) :
    Sim (rhoC ρ (collMv L h all).q (collMv L h all).tt (stT k.nx S)) (collL L h all) (collHH L h all) (movL k.nx S) (k1.moved S) := by
  obtain ⟨q, hq⟩ : ∃ q, q = (collMv L h all).q := ⟨_, rfl⟩
  obtain ⟨tt, htt⟩ : ∃ tt, tt = (collMv L h all).tt := ⟨_, rfl⟩
  obtain ⟨st, hst⟩ : ∃ st, st = stT k.nx S := ⟨_, rfl⟩
  rw [← hq] at heq
  rw [← hq, ← htt, ← hst]
  have hri : ∀ {u u' : Int}, u ∈ q → u' ∈ q → ren tt u = ren tt u' → u = u' := fun {u u'} h1 h2 e => by
    rw [hq] at h1 h2; rw [htt] at e; exact ren_inj h1 h2 e
  have hno : ∀ {x : Int}, x ∉ q → ren tt x = x := fun {x} hx => by rw [htt]; exact ren_no (by rw [← hq]; exact hx)
  have hSk : ∀ {v : Int}, (∃ y ∈ S, y.k = v) → ∀ {y : OW}, y ∈ M → y.k = v → y ∈ S := fun {v} ⟨y', hy', e'⟩ {y} hy e => by
    have : y' = y := pw_eq OW.k s.pm (hS y' hy') hy (by rw [e, e'])
    exact this ▸ hy'
  have hstS : ∀ {y : OW}, y ∈ M → y ∉ S → ren st y.k = y.k := fun {y} hy hn => by
    rw [hst]; exact ren_stNo (fun y' hy' e => hn (hSk ⟨y', hy', e⟩ hy rfl))
  have hkq : ∀ x ∈ q, isKey L x := fun x hx => by rw [hq] at hx; exact (collMv_ok L h all).mem x hx
  -- a word that is kept, or none
  have hW : ∀ u v, WR ρ u v → (isKey L u → u ∈ q) → WR (rhoC ρ q tt st) (ren tt u) (ren st v) := fun u v hr hkk => by
    rcases hr with hr | ⟨rfl, hc⟩
    · exact .inl ⟨u, v, hr, hkk (s.lkey hr).1, rfl, rfl⟩
    · refine .inr ⟨?_, ?_⟩
      · rw [hno (fun hx => s.noL hc (hkq _ hx)), hst, ren_stNo (fun y hy e => s.noM hc ⟨y, hS y hy, e⟩)]
      · rw [hno (fun hx => s.noL hc (hkq _ hx))]; exact hc
  have hfs : ∀ {x y : OW}, x ∈ L → SimO ρ x.o y.o → x.k ∈ q → SimO (rhoC ρ q tt st) (x.o.done tt) (y.o.done st) := fun {x y} hx ho hxq =>
    ⟨ho.kind, ho.text, rfl, rfl, ho.fs.map _ _ (fun u v hu hv hr => hW u v hr (fun hku => by rw [hq] at hxq ⊢; exact coll_closed s.pl s.shut hx hxq hu hku))⟩
  have hS1 : ∀ {u v : Int}, ρ u v → u ∈ q → ∃ y ∈ S, y.k = v := fun hr hu => (heq _ _ hr).1 hu
  refine ⟨?_, ?_, ?_, ?_, ?_, collL_keys L h all, movL_keys _ _, fun x hx => collL_low s.nl.1 s.nl.2 hx, ?_, ?_, ?_, ?_, ?_, coll_shut s.pl, ?_, ?_, ?_, ?_⟩
  · rintro u' v' ⟨u, v, hr, hu, rfl, rfl⟩
    obtain ⟨x, hx, y, hy, rfl, rfl, ho⟩ := s.dom _ _ hr
    have hyS : y ∈ S := hSk (hS1 hr hu) hy rfl
    refine ⟨_, collL_of s.pl hx (by rw [← hq]; exact hu), _, movL_of hnd hyS, by rw [htt], by rw [hst], ?_⟩
    rw [← htt, ← hst]
    exact hfs hx ho hu
  · intro x' hx'
    obtain ⟨o, ho, hoq, rfl⟩ := collL_mem s.pl hx'
    obtain ⟨v, hv⟩ := s.lft o ho
    exact ⟨_, o.k, v, hv, by rw [hq]; exact hoq, by rw [htt], rfl⟩
  · intro y' hy'
    obtain ⟨y, hy, rfl⟩ := movL_mem hnd hy'
    obtain ⟨u, hu⟩ := s.rgt y (hS y hy)
    exact ⟨_, u, y.k, hu, (heq _ _ hu).2 ⟨y, hy, rfl⟩, rfl, by rw [hst]⟩
  · rintro a b a' b' ⟨u, v, hr, hu, rfl, rfl⟩ ⟨u', v', hr', hu', rfl, rfl⟩
    constructor
    · intro e
      have e1 := hri hu hu' e
      rw [(s.inj _ _ _ _ hr hr').1 e1]
    · intro e
      obtain ⟨y, hy, rfl⟩ := hS1 hr hu
      obtain ⟨y', hy', rfl⟩ := hS1 hr' hu'
      have e1 : y.k = y'.k := by rw [hst] at e; exact st_inj hnd hy hy' e
      rw [(s.inj _ _ _ _ hr hr').2 e1]
  · show All2 _ (h.roots.map (ren (collMv L h all).tt)) (k1.roots.map (ren (stT k1.nx S)))
    rw [hk.2.2.1, hk.2.2.2.1, ← htt, ← hst]
    exact s.roots.map _ _ (fun u v hu hv hr => hW u v hr (fun hku => by rw [hq]; exact coll_roots hu hku))
  · intro y hy
    show 0 < y.k ∧ y.k < k1.nx + 2 * (S.length : Int) ∧ y.k % 2 = 0
    rw [hk.2.2.2.1]
    exact movL_low s.nm.1 s.nm.2 hy
  · have hn : (collHH L h all).nx = h.nx + 2 * ((collMv L h all).q.length : Int) := (collMv_mv L h all).nx
    have := s.nl
    rw [hn]; omega
  · show 0 < k1.nx + 2 * (S.length : Int) ∧ (k1.nx + 2 * (S.length : Int)) % 2 = 0
    rw [hk.2.2.2.1]
    have := s.nm
    omega
  · intro x hx
    obtain ⟨o, ho, -, rfl⟩ := collL_mem s.pl hx
    exact s.kd o ho
  · intro x hx
    obtain ⟨o, ho, -, rfl⟩ := collL_mem s.pl hx
    exact fine_done (s.fine o ho) _
  · exact ⟨s.room.1.trans hk.1.symm, s.room.2.trans hk.2.1.symm⟩
  · refine ⟨?_, ?_⟩
    · rw [sumB_none (collL_old s.pl)]; rfl
    · rw [sumB_allOld (collL_old s.pl), ← sumC_coll]; rfl
  · exact ⟨hk.2.2.2.2.1.symm, hk.2.2.2.2.2.1.symm⟩
  · exact s.sp.trans hk.2.2.2.2.2.2.symm
/-- What a whole collection keeps. -/
theorem Sim.keepAll (s : Sim ρ L h M k) {out : List OW} (hr : ReachOk M false k.roots out) : ∀ u v, ρ u v → (u ∈ (collMv L h true).q ↔ ∃ y ∈ out, y.k = v) := by
  intro u v huv
  constructor
  · intro hu
    refine coll_least (K := fun u => ∀ v, ρ u v → ∃ y ∈ out, y.k = v) s.pl ?_ (fun e => by cases e) ?_ u hu v huv
    · intro x hx hkx v hxv
      obtain ⟨v', hv', hw⟩ := s.roots.left hx
      have h1 := s.wl hw hkx
      obtain rfl := (s.inj _ _ _ _ hxv h1).1 rfl
      obtain ⟨y, hy, e⟩ := (s.lkey hxv).2
      exact ⟨y, hr.start y hy (by rw [e]; exact hv') (by simp), e⟩
    · intro o ho hK f hf hkf v hfv
      obtain ⟨y, hy, hoy, hso⟩ := s.pairL ho
      obtain ⟨y', hy', e⟩ := hK _ hoy
      obtain rfl : y' = y := pw_eq OW.k s.pm (hr.sub y' hy') hy e
      obtain ⟨f', hf', hw⟩ := hso.fs.left hf
      have h1 := s.wl hw hkf
      obtain rfl := (s.inj _ _ _ _ hfv h1).1 rfl
      obtain ⟨z, hz, e2⟩ := (s.lkey hfv).2
      exact ⟨z, hr.shut _ hy' z hz (by rw [e2]; exact hf') (by simp), e2⟩
  · rintro ⟨y, hy, rfl⟩
    have := hr.least (fun y => ∃ u ∈ (collMv L h true).q, ρ u y.k) (fun x hx hxr => ?_) (fun x hx ⟨u, hu, hux⟩ z hz hzf => ?_) y hy
    · obtain ⟨u', hu', h1⟩ := this
      rw [(s.inj _ _ _ _ huv h1).2 rfl]
      exact hu'
    · obtain ⟨u, hu, hw⟩ := s.roots.right hxr
      have h1 := s.wm hw ⟨x, hx, rfl⟩
      exact ⟨u, coll_roots hu (s.lkey h1).1, h1⟩
    · obtain ⟨o, ho, hox, hso⟩ := s.pairM hx
      obtain rfl := (s.inj _ _ _ _ hux hox).2 rfl
      obtain ⟨f, hf, hw⟩ := hso.fs.right hzf
      have h1 := s.wm hw ⟨z, hz, rfl⟩
      exact ⟨f, coll_closed s.pl s.shut ho hu hf (s.lkey h1).1, h1⟩
theorem hasB_mem {S : List OW} {t : Nat} : hasB S t = true ↔ ∃ x ∈ S, x.t = t := by
  unfold hasB
  rw [List.any_eq_true]
  simp
/-- What a young one keeps; the document's objects lie apart. -/
theorem Sim.keepYoung (s : Sim ρ L h M k) (ht : M.Pairwise fun x y => x.t ≠ y.t) {yg : List OW} (hr : ReachOk M true (k.roots ++ notedW M) yg) : ∀ u v, ρ u v → (u ∈ (collMv L h false).q ↔ ∃ y ∈ stayL M yg, y.k = v) := by
  have hstay : ∀ {y : OW}, y ∈ M → (y.o.old = true ∨ y ∈ yg) → y ∈ stayL M yg := fun {y} hy ho => by
    unfold stayL
    rw [List.mem_filter]
    refine ⟨hy, ?_⟩
    rcases ho with ho | ho
    · rw [ho]; rfl
    · rw [hasB_mem.2 ⟨y, ho, rfl⟩]; simp
  have hstayM : ∀ {y : OW}, y ∈ stayL M yg → y ∈ M ∧ (y.o.old = true ∨ y ∈ yg) := fun {y} hy => by
    unfold stayL at hy
    rw [List.mem_filter] at hy
    refine ⟨hy.1, ?_⟩
    have h9 := hy.2
    rw [Bool.or_eq_true] at h9
    rcases h9 with h1 | h1
    · exact .inl h1
    · obtain ⟨x, hx, e⟩ := hasB_mem.1 h1
      refine .inr ?_
      obtain ⟨i, hi, rfl⟩ := List.mem_iff_getElem.1 hy.1
      obtain ⟨j, hj, hje⟩ := List.mem_iff_getElem.1 (hr.sub x hx)
      have : i = j := Classical.byContradiction fun hne => by
        rcases Nat.lt_or_gt_of_ne hne with h2 | h2
        · exact (List.pairwise_iff_getElem.1 ht i j hi hj h2) (by rw [hje, e])
        · exact (List.pairwise_iff_getElem.1 ht j i hj hi h2) (by rw [hje, e])
      subst this
      rw [hje]; exact hx
  intro u v huv
  constructor
  · intro hu
    refine coll_least (K := fun u => ∀ v, ρ u v → ∃ y ∈ stayL M yg, y.k = v) s.pl ?_ (fun _ o ho hold v hov => ?_) ?_ u hu v huv
    · intro x hx hkx v hxv
      obtain ⟨v', hv', hw⟩ := s.roots.left hx
      have h1 := s.wl hw hkx
      obtain rfl := (s.inj _ _ _ _ hxv h1).1 rfl
      obtain ⟨y, hy, e⟩ := (s.lkey hxv).2
      refine ⟨y, hstay hy ?_, e⟩
      cases hyo : y.o.old with
      | true => exact .inl rfl
      | false => exact .inr (hr.start y hy (List.mem_append.2 (.inl (by rw [e]; exact hv'))) (fun _ => hyo))
    · obtain ⟨y, hy, hoy, hso⟩ := s.pairL ho
      obtain rfl := (s.inj _ _ _ _ hov hoy).1 rfl
      exact ⟨y, hstay hy (.inl (by rw [← hso.old]; exact hold)), rfl⟩
    · intro o ho hK f hf hkf v hfv
      obtain ⟨y, hy, hoy, hso⟩ := s.pairL ho
      obtain ⟨y', hy', e⟩ := hK _ hoy
      obtain rfl : y' = y := pw_eq OW.k s.pm (hstayM hy').1 hy e
      obtain ⟨f', hf', hw⟩ := hso.fs.left hf
      have h1 := s.wl hw hkf
      obtain rfl := (s.inj _ _ _ _ hfv h1).1 rfl
      obtain ⟨p, hp, z, hz, e1, e2, hpz⟩ := s.dom _ _ hfv
      refine ⟨z, hstay hz ?_, e2⟩
      cases hzo : z.o.old with
      | true => exact .inl rfl
      | false =>
        refine .inr ?_
        rcases (hstayM hy').2 with hyo | hyg
        · cases hno : y'.o.noted with
          | true =>
            refine hr.start z hz (List.mem_append.2 (.inr ?_)) (fun _ => hzo)
            unfold notedW
            rw [List.mem_flatMap]
            exact ⟨y', hy, by rw [hyo, hno, e2]; exact hf'⟩
          | false =>
            exfalso
            have := s.shut o ho (by rw [hso.old]; exact hyo) (by rw [hso.noted]; exact hno) f hf p hp e1
            rw [hpz.old, hzo] at this
            cases this
        · exact hr.shut _ hyg z hz (by rw [e2]; exact hf') (fun _ => hzo)
  · rintro ⟨y, hy, rfl⟩
    obtain ⟨hyM, hyo⟩ := hstayM hy
    rcases hyo with hyo | hyg
    · obtain ⟨o, ho, hoy, hso⟩ := s.pairM hyM
      rw [(s.inj _ _ _ _ huv hoy).2 rfl]
      exact coll_old s.pl ho (by rw [hso.old]; exact hyo)
    · have := hr.least (fun y => ∃ u ∈ (collMv L h false).q, ρ u y.k) (fun x hx hxr => ?_) (fun x hx ⟨u, hu, hux⟩ z hz hzf => ?_) y hyg
      · obtain ⟨u', hu', h1⟩ := this
        rw [(s.inj _ _ _ _ huv h1).2 rfl]
        exact hu'
      · rcases List.mem_append.1 hxr with hxr | hxn
        · obtain ⟨u, hu, hw⟩ := s.roots.right hxr
          have h1 := s.wm hw ⟨x, hx, rfl⟩
          exact ⟨u, coll_roots hu (s.lkey h1).1, h1⟩
        · unfold notedW at hxn
          obtain ⟨z, hz, hxz⟩ := List.mem_flatMap.1 hxn
          cases hb : (z.o.old && z.o.noted) with
          | false => rw [hb] at hxz; simp at hxz
          | true =>
            rw [if_pos hb] at hxz
            rw [Bool.and_eq_true] at hb
            obtain ⟨o, ho, hoz, hso⟩ := s.pairM hz
            obtain ⟨f, hf, hw⟩ := hso.fs.right hxz
            have h1 := s.wm hw ⟨x, hx, rfl⟩
            exact ⟨f, coll_closed s.pl s.shut ho (coll_old s.pl ho (by rw [hso.old]; exact hb.1)) hf (s.lkey h1).1, h1⟩
      · obtain ⟨o, ho, hox, hso⟩ := s.pairM hx
        obtain rfl := (s.inj _ _ _ _ hux hox).2 rfl
        obtain ⟨f, hf, hw⟩ := hso.fs.right hzf
        have h1 := s.wm hw ⟨z, hz, rfl⟩
        exact ⟨f, coll_closed s.pl s.shut ho hu hf (s.lkey h1).1, h1⟩
end Go.Proofs.Ytlghnldlkbgajaa.S
namespace Go.Proofs.Ytlghnldlkbgajaa.S
open Go.RowKit Go.Proofs.YtlghnldlkbgajaaW.PrintWords Go.Proofs.YtlghnldlkbgajaaW.PrintLast Go.Proofs.YtlghnldlkbgajaaW.PrintMore
set_option linter.unusedVariables false
set_option linter.unusedSimpArgs false
variable {ρ : Int → Int → Prop} {L M : List OW} {h : HH} {k : RS}
theorem keys_of_t {S : List OW} (hp : M.Pairwise fun x y => x.k ≠ y.k) (hS : ∀ y ∈ S, y ∈ M) (hn : S.Pairwise fun x y => x.t ≠ y.t) : S.Pairwise fun x y => x.k ≠ y.k :=
  hn.imp_of_mem fun {x y} hx hy hne e => hne (by rw [pw_eq OW.k hp (hS x hx) (hS y hy) e])
theorem t_of_keys {S : List OW} (ht : M.Pairwise fun x y => x.t ≠ y.t) (hS : ∀ y ∈ S, y ∈ M) (hn : S.Pairwise fun x y => x.k ≠ y.k) : S.Pairwise fun x y => x.t ≠ y.t :=
  hn.imp_of_mem fun {x y} hx hy hne e => hne (by
    have : x = y := pw_eq (fun z : OW => (z.t : Int)) (ht.imp fun h e => h (by omega)) (hS x hx) (hS y hy) (by show (x.t : Int) = (y.t : Int); omega)
    rw [this])
theorem movL_t {nx : Int} {S : List OW} (h : S.Pairwise fun x y => x.t ≠ y.t) : (movL nx S).Pairwise fun x y => x.t ≠ y.t := by
  rw [List.pairwise_iff_getElem] at h ⊢
  intro i j hi hj hij
  rw [movL_len] at hi hj
  rw [movL_get nx S hi, movL_get nx S hj]
  exact h i j hi hj hij
theorem Sim.all (s : Sim ρ L h M k) {M' : List OW} {k' : RS} (hA : RAll M k M' k') : ∃ ρ', Sim ρ' (collL L h true) (collHH L h true) M' k' := by
  obtain ⟨out, hr, rfl, rfl⟩ := hA
  exact ⟨_, s.moved true out hr.sub (keys_of_t s.pm hr.sub hr.nd) (s.keepAll hr) ⟨rfl, rfl, rfl, rfl, s.cnt.1.symm, by show k.major + 1 = h.major + 1; rw [s.cnt.2], rfl⟩⟩
theorem Sim.young (s : Sim ρ L h M k) (ht : M.Pairwise fun x y => x.t ≠ y.t) {M' : List OW} {k' : RS} (hA : RYoung M k M' k') : (∃ ρ', Sim ρ' (collL L h false) (collHH L h false) M' k') ∧ M'.Pairwise fun x y => x.t ≠ y.t := by
  obtain ⟨yg, hr, rfl, rfl⟩ := hA
  have hsub : ∀ y ∈ stayL M yg, y ∈ M := fun y hy => stayL_sub y hy
  have hk : (stayL M yg).Pairwise fun x y => x.k ≠ y.k := s.pm.filter _
  exact ⟨⟨_, s.moved false (stayL M yg) hsub hk (s.keepYoung ht hr) ⟨rfl, rfl, rfl, rfl, by show k.minor + 1 = h.minor + 1; rw [s.cnt.1], s.cnt.2.symm, rfl⟩⟩, movL_t (t_of_keys ht hsub hk)⟩
theorem Sim.over (s : Sim ρ L h M k) : (h.room1 < h.has1) ↔ (k.old < sumB M true) := by rw [s.room.2, s.has.2, s.sum]
theorem Sim.mid (s : Sim ρ L h M k) (ht : M.Pairwise fun x y => x.t ≠ y.t) (all : Bool) {M' : List OW} {k' : RS} (hm : RMid all M k M' k') : ∃ ρ', Sim ρ' (ColMid L h all).1 (ColMid L h all).2 M' k' := by
  rcases hm with ⟨rfl, hA⟩ | ⟨rfl, M1, k1, hY, h2⟩
  · obtain ⟨ρ', s'⟩ := s.all hA
    exact ⟨ρ', by unfold ColMid; rw [if_neg (by simp)]; exact s'⟩
  · obtain ⟨⟨ρ1, s1⟩, ht1⟩ := s.young ht hY
    rcases h2 with ⟨ho, hA⟩ | ⟨ho, rfl, rfl⟩
    · obtain ⟨ρ', s'⟩ := s1.all hA
      exact ⟨ρ', by unfold ColMid; rw [if_pos ⟨rfl, s1.over.2 ho⟩]; exact s'⟩
    · exact ⟨ρ1, by unfold ColMid; rw [if_neg (fun e => ho (s1.over.1 e.2))]; exact s1⟩
theorem Sim.spend (s : Sim ρ L h M k) : Sim ρ L { h with spent := true } M { k with spent := true } :=
  ⟨s.dom, s.lft, s.rgt, s.inj, s.roots, s.pl, s.pm, s.ll, s.lm, s.nl, s.nm, s.kd, s.fine, s.shut, s.room, s.has, s.cnt, rfl⟩
theorem Sim.col (s : Sim ρ L h M k) (ht : M.Pairwise fun x y => x.t ≠ y.t) (all : Bool) {e : Int} {M' : List OW} {k' : RS} (hc : RCol all M k e M' k') : (ColF L h all).1 = e ∧ ∃ ρ', Sim ρ' (ColF L h all).2.1 (ColF L h all).2.2 M' k' := by
  rcases hc with ⟨hs, rfl, rfl, rfl⟩ | ⟨hs, k1, hm, h2⟩
  · unfold ColF
    rw [if_pos (by rw [s.sp]; exact hs)]
    exact ⟨rfl, ρ, s⟩
  · obtain ⟨ρ', s'⟩ := s.mid ht all hm
    unfold ColF
    rw [if_neg (by rw [s.sp, hs]; simp)]
    rcases h2 with ⟨ho, rfl, rfl⟩ | ⟨ho, rfl, rfl⟩
    · rw [if_pos (s'.over.2 ho)]
      exact ⟨rfl, ρ', s'.spend⟩
    · rw [if_neg (fun e => ho (s'.over.1 e))]
      exact ⟨rfl, ρ', s'⟩
theorem Sim.withRoots (s : Sim ρ L h M k) {r r' : List Int} (hr : All2 (WR ρ) r r') : Sim ρ L { h with roots := r } M { k with roots := r' } :=
  ⟨s.dom, s.lft, s.rgt, s.inj, hr, s.pl, s.pm, s.ll, s.lm, s.nl, s.nm, s.kd, s.fine, s.shut, s.room, s.has, s.cnt, s.sp⟩
/-- Room: fs go along with the roots. -/
theorem Sim.fits (s : Sim ρ L h M k) (ht : M.Pairwise fun x y => x.t ≠ y.t) {o : PO} {fs' : List Int} (hf : All2 (WR ρ) o.fs fs') {e : Int} {M' : List OW} {k' : RS}
    (hr : RRoom o.cells M { k with roots := k.roots ++ fs' } e M' k') : (roomF L h o).1 = e ∧ ∃ ρ', Sim ρ' (roomF L h o).2.1 (roomF L h o).2.2.1 M' { k' with roots := k'.roots.take k.roots.length } ∧ All2 (WR ρ') (roomF L h o).2.2.2 (k'.roots.drop k.roots.length) := by
  have hl := s.roots.1
  unfold roomF
  have hkeep : ∀ {x : RS}, x = { k with roots := k.roots ++ fs' } → { x with roots := x.roots.take k.roots.length } = k ∧ x.roots.drop k.roots.length = fs' := fun {x} e => by subst e; simp
  rcases hr with ⟨h1, rfl, rfl, rfl⟩ | ⟨h1, h2⟩
  · have h1 : k.spent = true ∨ k.young < o.cells := h1
    rw [if_pos (by rw [s.sp, s.room.1]; exact h1)]
    refine ⟨rfl, ρ, ?_, ?_⟩
    · rw [(hkeep rfl).1]; exact s
    · rw [(hkeep rfl).2]; exact hf
  · have h1 : k.spent = false ∧ o.cells ≤ k.young := h1
    rw [if_neg (by rw [s.sp, s.room.1, h1.1]; simp; omega)]
    rcases h2 with ⟨h3, rfl, rfl, rfl⟩ | ⟨h3, hc⟩
    · have h3 : sumB M' false + o.cells ≤ k.young := h3
      rw [if_neg (by rw [s.has.1, s.room.1, s.sum]; omega)]
      refine ⟨rfl, ρ, ?_, ?_⟩
      · rw [(hkeep rfl).1]; exact s
      · rw [(hkeep rfl).2]; exact hf
    · have h3 : ¬ sumB M false + o.cells ≤ k.young := h3
      rw [if_pos (by rw [s.has.1, s.room.1, s.sum]; omega)]
      obtain ⟨he, ρ', s'⟩ := (s.withRoots (s.roots.app hf)).col ht false hc
      refine ⟨he, ρ', ?_, ?_⟩
      · have := s'.withRoots (s'.roots.take h.roots.length)
        rw [hl] at this
        rw [hl]
        exact this
      · have := s'.roots.drop h.roots.length
        rw [hl] at this
        rw [hl]
        exact this
/-- An object is put. -/
theorem Sim.put (s : Sim ρ L h M k) {x y : OW} (ho : SimO ρ x.o y.o) (hy : y.k = k.nx) (hx : x.k = h.nx) (hkd : 0 < x.o.kind) (hfn : x.o.Fine) (hold : x.o.old = false) :
    ∃ ρ', Sim ρ' (L ++ [x]) { h with nx := h.nx + 2, has0 := h.has0 + x.o.cells } (M ++ [y]) { k with nx := k.nx + 2 } ∧ (∀ u v, ρ u v → ρ' u v) ∧ ρ' x.k y.k := by
  have hfresh : ∀ u v, ρ u v → u ≠ x.k ∧ v ≠ y.k := fun u v hr => by
    obtain ⟨⟨a, ha, e⟩, ⟨b, hb, e2⟩⟩ := s.lkey hr
    have := s.ll a ha
    have := s.lm b hb
    omega
  refine ⟨fun u v => ρ u v ∨ (u = x.k ∧ v = y.k), ⟨?_, ?_, ?_, ?_, ?_, ?_, ?_, ?_, ?_, ?_, ?_, ?_, ?_, ?_, s.room, ?_, s.cnt, s.sp⟩, fun u v hr => .inl hr, .inr ⟨rfl, rfl⟩⟩
  · have hO : ∀ {a b : PO}, SimO ρ a b → SimO (fun u v => ρ u v ∨ (u = x.k ∧ v = y.k)) a b := fun {a b} h => ⟨h.kind, h.text, h.old, h.noted, h.fs.mono fun u v _ _ hr => hr.imp .inl id⟩
    rintro u v (hr | ⟨rfl, rfl⟩)
    · obtain ⟨a, ha, b, hb, e, e2, h3⟩ := s.dom _ _ hr
      exact ⟨a, by simp [ha], b, by simp [hb], e, e2, hO h3⟩
    · exact ⟨x, by simp, y, by simp, rfl, rfl, hO ho⟩
  · intro a ha
    rcases List.mem_append.1 ha with ha | ha
    · obtain ⟨v, hv⟩ := s.lft a ha; exact ⟨v, .inl hv⟩
    · obtain rfl := List.mem_singleton.1 ha; exact ⟨y.k, .inr ⟨rfl, rfl⟩⟩
  · intro a ha
    rcases List.mem_append.1 ha with ha | ha
    · obtain ⟨v, hv⟩ := s.rgt a ha; exact ⟨v, .inl hv⟩
    · obtain rfl := List.mem_singleton.1 ha; exact ⟨x.k, .inr ⟨rfl, rfl⟩⟩
  · rintro u v u' v' (hr | ⟨rfl, rfl⟩) (hr' | ⟨rfl, rfl⟩)
    · exact s.inj _ _ _ _ hr hr'
    · have := hfresh _ _ hr
      exact ⟨fun e => absurd e this.1, fun e => absurd e this.2⟩
    · have := hfresh _ _ hr'
      exact ⟨fun e => absurd e.symm this.1, fun e => absurd e.symm this.2⟩
    · exact ⟨fun _ => rfl, fun _ => rfl⟩
  · exact s.roots.mono fun u v _ _ hr => hr.imp .inl id
  · exact List.pairwise_append.2 ⟨s.pl, List.pairwise_singleton _ _, fun a ha b hb => by obtain rfl := List.mem_singleton.1 hb; have := s.ll a ha; omega⟩
  · exact List.pairwise_append.2 ⟨s.pm, List.pairwise_singleton _ _, fun a ha b hb => by obtain rfl := List.mem_singleton.1 hb; have := s.lm a ha; omega⟩
  · intro a ha
    show 0 < a.k ∧ a.k < h.nx + 2 ∧ a.k % 2 = 0
    have := s.nl
    rcases List.mem_append.1 ha with ha | ha
    · have := s.ll a ha; omega
    · obtain rfl := List.mem_singleton.1 ha; omega
  · intro a ha
    show 0 < a.k ∧ a.k < k.nx + 2 ∧ a.k % 2 = 0
    have := s.nm
    rcases List.mem_append.1 ha with ha | ha
    · have := s.lm a ha; omega
    · obtain rfl := List.mem_singleton.1 ha; omega
  · have := s.nl
    show 0 < h.nx + 2 ∧ (h.nx + 2) % 2 = 0
    omega
  · have := s.nm
    show 0 < k.nx + 2 ∧ (k.nx + 2) % 2 = 0
    omega
  · intro a ha
    rcases List.mem_append.1 ha with ha | ha
    · exact s.kd a ha
    · obtain rfl := List.mem_singleton.1 ha; exact hkd
  · intro a ha
    rcases List.mem_append.1 ha with ha | ha
    · exact s.fine a ha
    · obtain rfl := List.mem_singleton.1 ha; exact hfn
  · intro a ha hao han f hf p hp e
    rcases List.mem_append.1 ha with ha1 | ha1
    · rcases List.mem_append.1 hp with hp1 | hp1
      · exact s.shut a ha1 hao han f hf p hp1 e
      · exfalso
        obtain rfl := List.mem_singleton.1 hp1
        obtain ⟨y', hy', hr, hso⟩ := s.pairL ha1
        obtain ⟨v, hv, hw⟩ := hso.fs.left hf
        rcases hw with hw | ⟨-, hc⟩
        · exact (hfresh _ _ hw).1 e.symm
        · have := s.nl
          rcases hc with h1 | h1 <;> omega
    · obtain rfl := List.mem_singleton.1 ha1
      rw [hold] at hao; cases hao
  · have e1 : ∀ b, sumB (L ++ [x]) b = sumB L b + valB b x := fun b => by rw [sumB_sum, sumB_sum, List.map_append, List.sum_append]; simp
    refine ⟨?_, ?_⟩
    · show h.has0 + x.o.cells = _
      rw [e1, s.has.1]; unfold valB; rw [if_pos hold]
    · show h.has1 = _
      rw [e1, s.has.2]; unfold valB; rw [if_neg (by rw [hold]; simp)]; omega
end Go.Proofs.Ytlghnldlkbgajaa.S
