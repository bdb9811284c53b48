
/- heap: what a collection makes of the objects, in plain lists; the heap behind it. -/
import Derived.Test.YtlghnldlkbgajaaHCells
namespace Go.Proofs.Ytlghnldlkbgajaa.S
open Go.RowKit Go.Proofs.YtlghnldlkbgajaaW.PrintWords Go.Proofs.YtlghnldlkbgajaaW.PrintLast Go.Proofs.YtlghnldlkbgajaaW.PrintMore
set_option linter.unusedVariables false
set_option linter.unusedSimpArgs false

/-! ### Names anew -/
def ren (tt : List (Int × Int)) (f : Int) : Int := (toGet tt f).getD f
def PO.part (tt : List (Int × Int)) (j : Nat) (o : PO) : PO := { o with fs := (o.fs.take j).map (ren tt) ++ o.fs.drop j }
def PO.done (tt : List (Int × Int)) (o : PO) : PO := { o with fs := o.fs.map (ren tt), old := true, noted := false }
theorem part_zero (tt : List (Int × Int)) (o : PO) : o.part tt 0 = o := by unfold PO.part; simp
theorem part_len (tt : List (Int × Int)) (j : Nat) (o : PO) : (o.part tt j).fs.length = o.fs.length := by unfold PO.part; simp; omega
theorem part_get (tt : List (Int × Int)) (o : PO) {j : Nat} (hj : j < o.fs.length) : (o.part tt j).fs.getD j 0 = o.fs.getD j 0 := by
  unfold PO.part
  simp [List.getD, List.getElem?_append, Nat.min_eq_left (Nat.le_of_lt hj)]
theorem part_succ (tt : List (Int × Int)) (o : PO) {j : Nat} (hj : j < o.fs.length) : o.part tt (j + 1) = (o.part tt j).set j (ren tt (o.fs.getD j 0)) := by
  unfold PO.part PO.set
  congr 1
  apply List.ext_getElem?
  intro i
  simp only [List.getElem?_set, List.getElem?_append, List.length_map, List.length_take, List.getElem?_map, List.getElem?_take, List.getElem?_drop, List.length_append, List.length_drop, List.getD]
  by_cases h1 : j = i
  · subst h1
    rw [if_pos rfl, if_pos (by omega), if_pos (by omega), if_pos (by omega), List.getElem?_eq_getElem hj]
    simp
  · rw [if_neg h1]
    by_cases h2 : i < j
    · rw [if_pos (by omega), if_pos (by omega), if_pos (by omega), if_pos (by omega)]
    · rw [if_neg (by omega), if_neg (by omega)]
      congr 1
      omega
theorem part_none (tt : List (Int × Int)) (o : PO) {j : Nat} (hj : j < o.fs.length) (h : toGet tt (o.fs.getD j 0) = none) : o.part tt (j + 1) = o.part tt j := by
  rw [part_succ tt o hj]
  unfold ren
  rw [h]
  unfold PO.set
  have e : (o.part tt j).fs.getD j 0 = o.fs.getD j 0 := part_get tt o hj
  have hl : j < (o.part tt j).fs.length := by rw [part_len]; exact hj
  have : (o.part tt j).fs.set j ((none : Option Int).getD (o.fs.getD j 0)) = (o.part tt j).fs := by
    rw [show (none : Option Int).getD (o.fs.getD j 0) = (o.part tt j).fs[j] from by rw [Option.getD_none, ← e]; simp [List.getD, hl]]
    exact List.set_getElem_self hl
  rw [this]
theorem part_all (tt : List (Int × Int)) (o : PO) : ({ ({ o.part tt o.fs.length with old := true } : PO) with noted := false } : PO) = o.done tt := by
  unfold PO.part PO.done; simp
theorem done_cells (tt : List (Int × Int)) (o : PO) : (o.done tt).cells = o.cells := by unfold PO.done PO.cells; simp
theorem done_nil (tt : List (Int × Int)) (o : PO) : (o.done tt).fs ≠ [] ↔ o.fs ≠ [] := by unfold PO.done; simp

/-! ### upd -/
theorem upd_upd (L : List OW) (k : Int) (f f' : PO → PO) : upd (upd L k f) k f' = upd L k (fun o => f' (f o)) := by
  unfold upd
  rw [List.map_map]
  refine List.map_congr_left fun y _ => ?_
  simp only [Function.comp]
  by_cases h : y.k = k
  · simp [h]
  · simp [h]
theorem upd_congr {L : List OW} {k : Int} {f f' : PO → PO} (h : ∀ y ∈ L, y.k = k → f y.o = f' y.o) : upd L k f = upd L k f' := by
  unfold upd
  refine List.map_congr_left fun y hy => ?_
  by_cases hk : y.k = k
  · rw [if_pos hk, if_pos hk, h y hy hk]
  · rw [if_neg hk, if_neg hk]
theorem upd_id {L : List OW} {k : Int} {f : PO → PO} (h : ∀ y ∈ L, y.k = k → f y.o = y.o) : upd L k f = L := by
  unfold upd
  refine (List.map_congr_left fun y hy => ?_).trans (List.map_id _)
  by_cases hk : y.k = k
  · rw [if_pos hk, h y hy hk]; rfl
  · rw [if_neg hk]; rfl
/-- The objects of some words, done. -/
def markL (tt : List (Int × Int)) (ks : List Int) (L : List OW) : List OW := L.map fun y => if y.k ∈ ks then { y with o := y.o.done tt } else y
theorem markL_nil (tt : List (Int × Int)) (L : List OW) : markL tt [] L = L := by unfold markL; simp
theorem markL_step (tt : List (Int × Int)) (ks : List Int) (L : List OW) {k : Int} (hk : k ∉ ks) : upd (markL tt ks L) k (PO.done tt) = markL tt (ks ++ [k]) L := by
  unfold upd markL
  rw [List.map_map]
  refine List.map_congr_left fun y _ => ?_
  simp only [Function.comp]
  by_cases h : y.k = k
  · rw [if_neg (show y.k ∉ ks by rw [h]; exact hk), if_pos h, if_pos (by simp [h])]
  · by_cases h2 : y.k ∈ ks
    · rw [if_pos h2, if_pos (show y.k ∈ ks ++ [k] by simp [h2])]
      simp [h]
    · rw [if_neg h2, if_neg h, if_neg (by simp [h, h2])]
theorem markL_at (tt : List (Int × Int)) {ks : List Int} {L : List OW} {x : OW} (hx : x ∈ L) (hk : x.k ∉ ks) : x ∈ markL tt ks L := List.mem_map.2 ⟨x, hx, by simp [hk]⟩
theorem markL_done (tt : List (Int × Int)) {ks : List Int} {L : List OW} {x : OW} (hx : x ∈ L) (hk : x.k ∈ ks) : { x with o := x.o.done tt } ∈ markL tt ks L := List.mem_map.2 ⟨x, hx, by simp [hk]⟩

/-! ### The mover's map -/
structure MvOk (n0 : Int) (s : Mv) : Prop where
  tt : s.tt = s.q.mapIdx (fun j k => (k, n0 + 2 * (j : Int)))
  nx : s.nx = n0 + 2 * (s.q.length : Int)
theorem MvOk.nil (n0 : Int) : MvOk n0 ⟨n0, [], []⟩ := ⟨rfl, by simp⟩
theorem MvOk.move {n0 : Int} {L : List OW} {s : Mv} (h : MvOk n0 s) (x : Int) : MvOk n0 (mvF L s x).2 := by
  unfold mvF
  split
  · split
    · exact h
    · refine ⟨?_, ?_⟩
      · show s.tt ++ [(x, s.nx)] = (s.q ++ [x]).mapIdx _
        rw [List.mapIdx_append, ← h.tt, h.nx]
        simp
      · show s.nx + 2 = n0 + 2 * ((s.q ++ [x]).length : Int)
        rw [h.nx]; simp; omega
  · exact h
theorem MvOk.all {n0 : Int} {L : List OW} : ∀ (l : List Int) {s : Mv}, MvOk n0 s → MvOk n0 (mvAll L s l)
  | [], s, h => h
  | x :: l, s, h => MvOk.all l (h.move x)
theorem MvOk.step {n0 : Int} {L : List OW} {all : Bool} {s : Mv} (h : MvOk n0 s) (x : Int) : MvOk n0 (runStep L all s x) := by
  unfold runStep
  split
  · split
    · exact h
    · exact MvOk.all _ h
  · exact h
theorem MvOk.run {n0 : Int} {L : List OW} {all : Bool} : ∀ (n i : Nat) {s : Mv}, MvOk n0 s → MvOk n0 (runF L all n i s)
  | 0, i, s, h => h
  | n + 1, i, s, h => by
    unfold runF
    split
    · exact MvOk.run n (i + 1) (h.step _)
    · exact h
theorem QOk.run {L : List OW} {all : Bool} : ∀ (n i : Nat) {s : Mv}, QOk L s → QOk L (runF L all n i s)
  | 0, i, s, h => h
  | n + 1, i, s, h => by
    unfold runF
    split
    · exact QOk.run n (i + 1) (h.step _)
    · exact h
theorem toGet_mem {tt : List (Int × Int)} (hp : tt.Pairwise fun p q => p.1 ≠ q.1) {k v : Int} (h : (k, v) ∈ tt) : toGet tt k = some v := by
  have h1 := toV_get tt k
  rw [get_of_mem (m := toV tt) (by unfold toV; rw [List.pairwise_map]; exact hp) (show (k, Value.int .i64 v) ∈ toV tt from List.mem_map.2 ⟨_, h, rfl⟩)] at h1
  cases h2 : toGet tt k with
  | none => rw [h2] at h1; simp at h1
  | some x => rw [h2] at h1; simp at h1; rw [h1]
theorem MvOk.at {n0 : Int} {L : List OW} {s : Mv} (h : MvOk n0 s) (hq : QOk L s) {i : Nat} (hi : i < s.q.length) : toGet s.tt (s.q.getD i 0) = some (n0 + 2 * (i : Int)) := by
  refine toGet_mem ?_ ?_
  · have : (s.tt.map (·.1)).Pairwise (· ≠ ·) := by rw [hq.keys]; exact hq.nodup
    rw [List.pairwise_map] at this
    exact this
  · rw [h.tt, List.mem_iff_getElem?]
    exact ⟨i, by simp [List.getElem?_mapIdx, List.getD, hi]⟩

/-! ### What is kept -/
def getO (L : List OW) (k : Int) : OW := (L.find? fun x => decide (x.k = k)).getD ⟨0, 0, none, 0, 0, ⟨0, [], ⟨#[]⟩, false, false⟩⟩
theorem getO_of {L : List OW} (hp : L.Pairwise fun x y => x.k ≠ y.k) {x : OW} (hx : x ∈ L) : getO L x.k = x := by
  unfold getO
  cases h : L.find? (fun y => decide (y.k = x.k)) with
  | none => exact absurd (List.find?_eq_none.1 h x hx) (by simp)
  | some y =>
    have h1 := List.find?_some h
    exact pw_eq OW.k hp (List.mem_of_find?_eq_some h) hx (by simpa using h1)
def keptP (L : List OW) (n0 : Int) (q : List Int) : List (Int × Value) := q.mapIdx fun j k => (n0 + 2 * (j : Int), ptr (getO L k).t)
theorem keptP_step (L : List OW) (n0 : Int) (q : List Int) (k : Int) : put (keptP L n0 q) (n0 + 2 * (q.length : Int)) (ptr (getO L k).t) = keptP L n0 (q ++ [k]) := by
  have hn : get? (keptP L n0 q) (n0 + 2 * (q.length : Int)) = none := by
    rw [get_none]
    intro p hp
    unfold keptP at hp
    obtain ⟨j, hj⟩ := List.mem_iff_getElem?.1 hp
    rw [List.getElem?_mapIdx] at hj
    have hlt : j < q.length := by
      cases h : q[j]? with
      | none => rw [h] at hj; cases hj
      | some v => exact (List.getElem?_eq_some_iff.1 h).1
    rw [List.getElem?_eq_getElem hlt] at hj
    simp at hj
    rw [← hj]
    show n0 + 2 * (j : Int) ≠ _
    omega
  rw [put_new hn]
  unfold keptP
  rw [List.mapIdx_append]
  simp
def newO (L : List OW) (n0 : Int) (tt : List (Int × Int)) (j : Nat) (k : Int) : OW := { getO L k with k := n0 + 2 * (j : Int), o := (getO L k).o.done tt }
def newL (L : List OW) (n0 : Int) (tt : List (Int × Int)) (q : List Int) : List OW := q.mapIdx (newO L n0 tt)
theorem newL_pair (L : List OW) (n0 : Int) (tt : List (Int × Int)) (q : List Int) : (newL L n0 tt q).map OW.pair = keptP L n0 q := by
  unfold newL keptP
  apply List.ext_getElem?
  intro i
  simp only [List.getElem?_map, List.getElem?_mapIdx, Option.map_map]
  rfl
theorem newL_mem {L : List OW} {n0 : Int} {tt : List (Int × Int)} {q : List Int} {y : OW} (hy : y ∈ newL L n0 tt q) : ∃ j, j < q.length ∧ y = newO L n0 tt j (q.getD j 0) := by
  unfold newL at hy
  obtain ⟨j, hj⟩ := List.mem_iff_getElem?.1 hy
  rw [List.getElem?_mapIdx] at hj
  have hlt : j < q.length := by
    cases h : q[j]? with
    | none => rw [h] at hj; cases hj
    | some v => exact (List.getElem?_eq_some_iff.1 h).1
  rw [List.getElem?_eq_getElem hlt] at hj
  refine ⟨j, hlt, ?_⟩
  simp at hj
  rw [← hj]
  simp [List.getD, hlt]
/-- The heap whose objects are those that were kept. -/
theorem HW.kept {w w' : World} {g b kb B rc : Nat} {R : Option Addr} {L : List OW} {h : HH} {n0 : Int} {tt : List (Int × Int)} {q : List Int} (H : HW w g b B R rc (markL tt q L) h) (hp : L.Pairwise fun x y => x.k ≠ y.k) (hk : MapIs w kb (keptP L n0 q)) (hq : ∀ x ∈ q, ∃ o ∈ L, o.k = x) (hnd : q.Nodup)
    (h0 : 0 < n0) (h1 : n0 % 2 = 0) (hnx : h.nx = n0 + 2 * (q.length : Int)) (hkg : kb ≠ g) (hw : w' = w.setCell ⟨g, 0, none⟩ (.map (some kb))) : HW w' g kb B R rc (newL L n0 tt q) h := by
  have f : Fr [g] w w' := by rw [hw]; exact Fr.set w g 0 _
  have hgo : ∀ j, j < q.length → ∃ x ∈ L, x.k = q.getD j 0 ∧ getO L (q.getD j 0) = x ∧ { x with o := x.o.done tt } ∈ markL tt q L := fun j hj => by
    have hm : q.getD j 0 ∈ q := by simp [List.getD, hj]
    obtain ⟨x, hx, e⟩ := hq _ hm
    exact ⟨x, hx, e, by rw [← e]; exact getO_of hp hx, markL_done tt hx (by rw [e]; exact hm)⟩
  refine ⟨?_, ?_, own_fr H.rt f (fun k hkk => by simpa using H.ne_gr (H.rtBlock hkk).1), fun y hy => ?_, fun y hy => ?_, fun y hy z hz hyz => ?_, fun y hy rb hrb => ?_, fun y hy => ?_⟩
  · rw [hw]; exact blk_put H.hp 0 _ rfl
  · rw [newL_pair]
    exact hk.fr f (by simpa using hkg)
  · obtain ⟨j, hj, rfl⟩ := newL_mem hy
    obtain ⟨x, hx, -, e, hm⟩ := hgo j hj
    have := f.get (H.ob _ hm) (by simpa using H.ne_gt hm)
    unfold newO
    rw [e]
    exact this
  · obtain ⟨j, hj, rfl⟩ := newL_mem hy
    obtain ⟨x, hx, -, e, hm⟩ := hgo j hj
    unfold newO
    rw [e]
    exact (H.row _ hm).fr f (fun hne => by simpa using H.ne_gf hm hne)
  · obtain ⟨j, hj, rfl⟩ := newL_mem hy
    obtain ⟨i, hi, rfl⟩ := newL_mem hz
    obtain ⟨x, hx, ex, e, hm⟩ := hgo j hj
    obtain ⟨x', hx', ex', e', hm'⟩ := hgo i hi
    have hji : j ≠ i := fun e => hyz (by rw [e])
    have hne : x.k ≠ x'.k := by
      rw [ex, ex']
      intro e
      have hpw := List.pairwise_iff_getElem.1 hnd
      simp only [List.getD, List.getElem?_eq_getElem hj, List.getElem?_eq_getElem hi, Option.getD_some] at e
      rcases Nat.lt_or_gt_of_ne hji with h | h
      · exact hpw j i hj hi h e
      · exact hpw i j hi hj h e.symm
    have := H.one _ hm _ hm' hne
    unfold newO
    rw [e, e']
    exact this
  · obtain ⟨j, hj, rfl⟩ := newL_mem hy
    obtain ⟨x, hx, -, e, hm⟩ := hgo j hj
    unfold newO
    rw [e]
    exact H.far _ hm rb hrb
  · obtain ⟨j, hj, rfl⟩ := newL_mem hy
    show 0 < n0 + 2 * (j : Int) ∧ n0 + 2 * (j : Int) < h.nx ∧ (n0 + 2 * (j : Int)) % 2 = 0
    omega
end Go.Proofs.Ytlghnldlkbgajaa.S
