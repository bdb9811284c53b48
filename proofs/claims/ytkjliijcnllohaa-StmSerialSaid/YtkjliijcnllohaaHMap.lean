/- Maps whose keys are strings: what they hold as a list of pairs; look-up, update, and a loop's step at whatever block its iterator lies. -/
import Derived.Test.YtkjliijcnllohaaProg
import Derived.Laws.IdiomRangeMap
import Derived.MapKept
import Derived.Below
namespace Go.Proofs.Ytkjliijcnllohaa.S
open Go
set_option linter.unusedVariables false
set_option linter.unusedSimpArgs false
variable {P : Program}

/-- All but the heap is as it was, and of the heap all but block r. -/
structure But1 (r : Nat) (w w' : World) : Prop where
  os : w'.os = w.os
  tape : w'.tape = w.tape
  output : w'.output = w.output
  size : w'.heap.size = w.heap.size
  block : ∀ k, k ≠ r → w'.heap[k]? = w.heap[k]?

def strKeys (es : Array MapEntry) : Prop := ∀ x ∈ es.toList, ∃ s : ByteArray, x.key = .string s
theorem strKeys_is {es : Array MapEntry} (h : strKeys es) : ∀ x ∈ es.toList, MapKept.IsKey .string x.key := fun x hx => by
  obtain ⟨s, hs⟩ := h x hx
  rw [hs]; trivial

/-- A map's pairs, in the order in which they were laid. -/
def pairs (es : Array MapEntry) : List (Value × Value) := es.toList.map fun e => (e.key, e.val)
def MapIs (w : World) (b : Nat) (m : List (ByteArray × Value)) : Prop :=
  ∃ es clock, w.heap[b]? = some (.map es clock) ∧ MapKept.Stamped es clock ∧ pairs es = m.map fun p => (.string p.1, p.2)
def get? (m : List (ByteArray × Value)) (s : ByteArray) : Option Value := (m.find? fun p => decide (p.1 = s)).map (·.2)
def put (m : List (ByteArray × Value)) (s : ByteArray) (v : Value) : List (ByteArray × Value) :=
  if (get? m s).isSome then m.map (fun p => if p.1 = s then (s, v) else p) else m ++ [(s, v)]

theorem pairs_keys {es : Array MapEntry} {m : List (ByteArray × Value)} (h : pairs es = m.map fun p => (.string p.1, p.2)) : strKeys es := by
  intro x hx
  have : (x.key, x.val) ∈ pairs es := List.mem_map.2 ⟨x, hx, rfl⟩
  rw [h] at this
  obtain ⟨p, _, hp⟩ := List.mem_map.1 this
  exact ⟨p.1, by simpa using congrArg Prod.fst hp.symm⟩

theorem get_none {m : List (ByteArray × Value)} {s : ByteArray} : get? m s = none ↔ ∀ p ∈ m, p.1 ≠ s := by
  unfold get?
  rw [Option.map_eq_none_iff, List.find?_eq_none]
  simp
theorem get_some_mem {m : List (ByteArray × Value)} {s : ByteArray} {v : Value} (h : get? m s = some v) : (s, v) ∈ m := by
  unfold get? at h
  rw [Option.map_eq_some_iff] at h
  obtain ⟨p, hp, rfl⟩ := h
  have h1 := List.find?_some hp
  have h2 := List.mem_of_find?_eq_some hp
  simp only [decide_eq_true_eq] at h1
  subst h1
  exact h2
theorem get_of_mem {m : List (ByteArray × Value)} (hn : m.Pairwise fun p q => p.1 ≠ q.1) {s : ByteArray} {v : Value} (h : (s, v) ∈ m) : get? m s = some v := by
  induction m with
  | nil => cases h
  | cons a m ih =>
    rw [List.pairwise_cons] at hn
    unfold get?
    rw [List.find?_cons]
    by_cases ha : a.1 = s
    · rw [decide_eq_true ha]
      rcases List.mem_cons.1 h with rfl | h
      · rfl
      · exact absurd ha (hn.1 _ h)
    · rw [decide_eq_false ha]
      rcases List.mem_cons.1 h with rfl | h
      · exact absurd rfl ha
      · exact ih hn.2 h

theorem pairs_apart {es : Array MapEntry} {clock : Nat} (hs : MapKept.Stamped es clock) {m : List (ByteArray × Value)} (h : pairs es = m.map fun p => (.string p.1, p.2)) : m.Pairwise fun p q => p.1 ≠ q.1 := by
  have h3 := ((MapKept.stamped_iff es clock).1 hs).2.2
  have h4 : (pairs es).Pairwise fun p q => p.1 ≠ q.1 := by
    unfold pairs
    rw [List.pairwise_map]
    exact h3
  rw [h, List.pairwise_map] at h4
  exact h4.imp (fun hne e => hne (by rw [e]))

theorem find_pairs {es : Array MapEntry} {m : List (ByteArray × Value)} (h : pairs es = m.map fun p => (.string p.1, p.2)) (s : ByteArray) :
    (Instr.findNow .string (.string s) es.toList 0 = some none ∧ get? m s = none) ∨
    ∃ j e, Instr.findNow .string (.string s) es.toList 0 = some (some (j, e.val)) ∧ es.toList[j]? = some e ∧ e.key = .string s ∧ (s, e.val) ∈ m := by
  rcases MapKept.findNow_spec (d := .string) (k := .string s) trivial es.toList 0 (strKeys_is (pairs_keys h)) with ⟨h1, h2⟩ | ⟨j, e, h1, h2, h3⟩
  · refine .inl ⟨h1, get_none.2 fun p hp he => ?_⟩
    have : (Value.string p.1, p.2) ∈ pairs es := by rw [h]; exact List.mem_map.2 ⟨p, hp, rfl⟩
    obtain ⟨x, hx, hxp⟩ := List.mem_map.1 this
    exact h2 x hx (by rw [← he]; exact congrArg Prod.fst hxp)
  · refine .inr ⟨j, e, by simpa using h1, h2, h3, ?_⟩
    have : (e.key, e.val) ∈ pairs es := List.mem_map.2 ⟨e, List.mem_of_getElem? h2, rfl⟩
    rw [h] at this
    obtain ⟨p, hp, hpe⟩ := List.mem_map.1 this
    simp only [Prod.mk.injEq] at hpe
    have : p = (s, e.val) := by
      rw [h3] at hpe
      obtain ⟨p1, p2⟩ := p
      simp only [Value.string.injEq] at hpe
      rw [hpe.1, hpe.2]
    rw [← this]; exact hp

theorem map_lookup {t k e : TypeId} (ht : P.underlying t = some (.map k e)) (hk : P.underlying k = some .string) {z : Value} {w : World} (hz : (zeroValue e).run P w = .ok z w) {b : Nat} {m : List (ByteArray × Value)} (h : MapIs w b m) (s : ByteArray) (c : Bool) :
    (Instr.lookup t (.map (some b)) (.string s) c).run P w = .ok (if c then .tuple #[(get? m s).getD z, .bool (get? m s).isSome] else (get? m s).getD z) w := by
  obtain ⟨es, clock, hb, hs, hp⟩ := h
  have hck : ∀ emp, (Instr.checkKey emp 10000 k (.string s)).run P w = .ok () w := fun emp => MapKept.run_checkKey (d := .string) (k := .string s) (n := 9999) hk trivial emp
  rcases find_pairs hp s with ⟨h1, h2⟩ | ⟨j, x, h1, h2, h3, h4⟩
  · rw [h2]
    simp [Instr.lookup, run_underlying ht, MapKept.run_getObj_map hb, hck, MapKept.run_findKey hk h1, hz, Result.andThen]
  · rw [get_of_mem (pairs_apart hs hp) h4]
    simp [Instr.lookup, run_underlying ht, MapKept.run_getObj_map hb, hck, MapKept.run_findKey hk h1, hz, Result.andThen]
theorem nil_lookup {t k e : TypeId} (ht : P.underlying t = some (.map k e)) (hk : P.underlying k = some .string) {z : Value} {w : World} (hz : (zeroValue e).run P w = .ok z w) (s : ByteArray) (c : Bool) :
    (Instr.lookup t (.map none) (.string s) c).run P w = .ok (if c then .tuple #[z, .bool false] else z) w := by
  have hck : ∀ emp, (Instr.checkKey emp 10000 k (.string s)).run P w = .ok () w := fun emp => MapKept.run_checkKey (d := .string) (k := .string s) (n := 9999) hk trivial emp
  have h1 : Instr.findNow .string (.string s) ([] : List MapEntry) 0 = some none := rfl
  simp [Instr.lookup, run_underlying ht, hck, MapKept.run_findKey hk h1, hz, Result.andThen]

theorem but1_set (w : World) (r : Nat) (o : Obj) : But1 r w { w with heap := w.heap.setIfInBounds r o } :=
  ⟨rfl, rfl, rfl, by simp, fun k hk => by simp [Ne.symm hk]⟩
theorem set_at {w : World} {r : Nat} {o o' : Obj} (h : w.heap[r]? = some o) : ({ w with heap := w.heap.setIfInBounds r o' } : World).heap[r]? = some o' := (MapKept.heap_set h).1

theorem pairs_modify {l : List MapEntry} {j : Nat} {e0 : MapEntry} (hj : l[j]? = some e0) (hd : l.Pairwise fun x y => x.key ≠ y.key) {s : ByteArray} (he : e0.key = .string s) (v : Value) {m : List (ByteArray × Value)} (h : (l.map fun e => (e.key, e.val)) = m.map fun p => (.string p.1, p.2)) :
    ((l.modify j fun e => { e with key := .string s, val := v }).map fun e => (e.key, e.val)) = (m.map (fun p => if p.1 = s then (s, v) else p)).map fun p => (.string p.1, p.2) := by
  induction l generalizing j m with
  | nil => simp at hj
  | cons a l ih =>
    cases m with
    | nil => simp at h
    | cons p m =>
      simp only [List.map_cons, List.cons.injEq, Prod.mk.injEq] at h
      obtain ⟨⟨hk, hv⟩, ht⟩ := h
      rw [List.pairwise_cons] at hd
      cases j with
      | zero =>
        simp only [List.getElem?_cons_zero, Option.some.injEq] at hj
        subst hj
        have hps : p.1 = s := by rw [he] at hk; simpa using hk.symm
        have hrest : (m.map (fun p => if p.1 = s then (s, v) else p)) = m := by
          refine (List.map_congr_left fun q hq => ?_).trans (List.map_id _)
          have : q.1 ≠ s := fun e => by
            have hm : (Value.string q.1, q.2) ∈ (l.map fun e => (e.key, e.val)) := by rw [ht]; exact List.mem_map.2 ⟨q, hq, rfl⟩
            obtain ⟨x, hx, hxq⟩ := List.mem_map.1 hm
            exact hd.1 x hx (by rw [he, ← e]; exact (congrArg Prod.fst hxq).symm)
          simp [this]
        simp only [List.modify_zero_cons, List.map_cons, hrest, ht, hps, if_true]
      | succ j =>
        simp only [List.getElem?_cons_succ] at hj
        have hne : p.1 ≠ s := fun e => hd.1 e0 (List.mem_of_getElem? hj) (by rw [hk, he, e])
        simp only [List.modify_succ_cons, List.map_cons, ih hj hd.2 ht, if_neg hne, hk, hv]

theorem map_update {t k e : TypeId} (ht : P.underlying t = some (.map k e)) (hk : P.underlying k = some .string) {w : World} {b : Nat} {m : List (ByteArray × Value)} (h : MapIs w b m) (s : ByteArray) (v : Value) :
    ∃ w1, (Instr.mapUpdate t (.map (some b)) (.string s) v).run P w = .ok () w1 ∧ MapIs w1 b (put m s v) ∧ But1 b w w1 := by
  obtain ⟨es, clock, hb, hs, hp⟩ := h
  have hck : ∀ emp, (Instr.checkKey emp 10000 k (.string s)).run P w = .ok () w := fun emp => MapKept.run_checkKey (d := .string) (k := .string s) (n := 9999) hk trivial emp
  rcases find_pairs hp s with ⟨h1, h2⟩ | ⟨j, x, h1, h2, h3, h4⟩
  · refine ⟨{ w with heap := w.heap.setIfInBounds b (.map (es.push { key := .string s, val := v, born := clock }) (clock + 1)) }, ?_, ⟨es.push { key := .string s, val := v, born := clock }, clock + 1, set_at hb, MapKept.stamped_push hs ?_, ?_⟩, but1_set _ _ _⟩
    · simp [Instr.mapUpdate, run_underlying ht, MapKept.run_getObj_map hb, hck, MapKept.run_findKey hk h1, MapKept.run_setObj_map _ hb, Result.andThen]
    · intro y hy e
      obtain ⟨q, hq⟩ := pairs_keys hp y hy
      have : (y.key, y.val) ∈ pairs es := List.mem_map.2 ⟨y, hy, rfl⟩
      rw [hp] at this
      obtain ⟨p, hpm, hpe⟩ := List.mem_map.1 this
      exact get_none.1 h2 p hpm (by have := congrArg Prod.fst hpe; simp only at this; rw [e] at this; simpa using this)
    · unfold put
      rw [h2]
      have : pairs (es.push { key := .string s, val := v, born := clock }) = pairs es ++ [(.string s, v)] := by simp [pairs]
      rw [this, hp]
      simp
  · have hj : es[j]? = some x := by simpa using h2
    have hx0 := hj
    refine ⟨{ w with heap := w.heap.setIfInBounds b (.map (es.modify j fun e => { e with key := .string s, val := v }) clock) }, ?_, ⟨es.modify j fun e => { e with key := .string s, val := v }, clock, set_at hb, MapKept.stamped_modify hs _ _ (fun _ _ => rfl) (fun e' _ he' => ?_), ?_⟩, but1_set _ _ _⟩
    · simp [Instr.mapUpdate, run_underlying ht, MapKept.run_getObj_map hb, hck, MapKept.run_findKey hk h1, hj, h3, MapKept.run_keyThatStays (d := .string) (k := .string s) trivial, MapKept.run_setObj_map _ hb, Result.andThen]
    · rw [hj] at he'; cases he'; exact h3.symm
    · unfold put
      rw [get_of_mem (pairs_apart hs hp) h4]
      simp only [Option.isSome_some, if_true]
      have := pairs_modify h2 ((MapKept.stamped_iff es clock).1 hs).2.2 h3 v hp
      rw [← this]
      simp [pairs]

/-! ### A loop over a map -/
/-- The iterator of a loop over the map in block b, that has handed out what is in seen. -/
def IterAt (w : World) (r b : Nat) (clock : Nat) (seen : Array Nat) : Prop := w.heap[r]? = some (.mapIter (some b) clock seen clock)
theorem map_range {t k e : TypeId} (ht : P.underlying t = some (.map k e)) {w : World} {b : Nat} {es : Array MapEntry} {clock : Nat} (hb : w.heap[b]? = some (.map es clock)) :
    (Instr.range t (.map (some b))).run P w = .ok (.pointer (some ⟨w.heap.size, 0, none⟩)) (w.alloc (.mapIter (some b) clock #[] clock)) := run_range_map w t k e b es clock ht hb

theorem next_at {w : World} {r b : Nat} {es : Array MapEntry} {clock : Nat} {seen : Array Nat} (hr : IterAt w r b clock seen) (hb : w.heap[b]? = some (.map es clock)) (hs : MapKept.Stamped es clock) (ty : TypeId) :
    ((∀ e ∈ es.toList, e.born ∈ seen) ∧ (Instr.next (.pointer (some ⟨r, 0, none⟩)) false ty).run P w = .ok (.tuple #[.bool false]) w) ∨
    ∃ e ∈ es.toList, e.born ∉ seen ∧ ∃ w1, (∀ ty, (Instr.next (.pointer (some ⟨r, 0, none⟩)) false ty).run P w = .ok (.tuple #[.bool true, e.key, e.val]) w1) ∧ IterAt w1 r b clock (seen.push e.born) ∧ But1 r w w1 := by
  have hold : ∀ x ∈ es.toList, x.born < clock := ((MapKept.stamped_iff es clock).1 hs).1
  unfold IterAt at hr
  have hrun0 : ∀ ty, (Instr.next (.pointer (some ⟨r, 0, none⟩)) false ty).run P w = (Instr.next (.pointer (some ⟨r, 0, none⟩)) false 0).run P w := fun _ => rfl
  rw [hrun0]
  simp only [hrun0]
  simp only [Instr.next, getObj, Sem.run_bind, Sem.run, hr, hb, Result.andThen, next_test_false seen es clock clock hold (Nat.le_refl _), Bool.false_eq_true, if_false]
  have hL : ∀ x, x ∈ (Array.filter (fun e => !seen.contains e.born) es) ↔ x ∈ es.toList ∧ x.born ∉ seen := fun x => by simp
  generalize Array.filter (fun e => !seen.contains e.born) es = L at hL ⊢
  have hmem : ∀ x ∈ L, x.born < clock := fun x hx => hold x ((hL x).1 hx).1
  have e1 : L.filter (fun x => decide (x.born < clock)) = L := Array.filter_eq_self.2 (fun x hx => by simpa using hmem x hx)
  have e2 : L.filter (fun x => decide (x.born ≥ clock)) = #[] := by
    rw [Array.filter_eq_empty_iff]
    intro x hx
    have := hmem x hx
    simp
    omega
  simp only [e1, e2, Array.append_empty]
  by_cases h0 : L.size = 0
  · left
    have hL0 : L = #[] := Array.eq_empty_of_size_eq_zero h0
    subst hL0
    refine ⟨fun e he => ?_, ?_⟩
    · by_cases hm : e.born ∈ seen
      · exact hm
      · have := (hL e).2 ⟨he, hm⟩
        simp at this
    · simp [choose, Sem.run, Question.forced]
  · right
    have hne : L.isEmpty = false := by simp [Array.isEmpty, h0]
    simp only [hne, Bool.false_eq_true, if_false, Array.empty_append, Array.size_map]
    have hch : ∃ (j : Nat) (w1 : World), j < L.size ∧ (w1.heap = w.heap ∧ w1.os = w.os ∧ w1.tape = w.tape ∧ w1.output = w.output) ∧ (choose (Question.mapNext L.size)).run P w = .ok j w1 := by
      by_cases hf : L.size ≤ 1
      · exact ⟨0, w, by omega, ⟨rfl, rfl, rfl, rfl⟩, by simp [choose, Sem.run, Question.forced, hf]⟩
      · exact ⟨_, w.drew, Nat.mod_lt _ (by omega), ⟨rfl, rfl, rfl, rfl⟩, by
          simp only [choose, Sem.run, Question.forced, decide_eq_true_eq, hf, if_false, Question.cut]
          rfl⟩
    obtain ⟨j, w1, hj, ⟨hh, ho, ht, hu⟩, hrun⟩ := hch
    have hin := (hL L[j]).1 (Array.getElem_mem hj)
    have hr1 : w1.heap[r]? = some (.mapIter (some b) clock seen clock) := by rw [hh]; exact hr
    refine ⟨L[j], hin.1, hin.2, { w1 with heap := w1.heap.setIfInBounds r (.mapIter (some b) clock (seen.push L[j].born) clock) }, ?_, set_at hr1, ?_⟩
    · intro _
      have hset : (setObj r (.mapIter (some b) clock (seen.push L[j].born) clock)).run P w1 = .ok () { w1 with heap := w1.heap.setIfInBounds r (.mapIter (some b) clock (seen.push L[j].born) clock) } := by
        simp [setObj, Sem.run, hr1]
      simp only [hrun, Array.getElem?_map, Array.getElem?_eq_getElem hj, Option.map_some, Sem.run_bind, hset, Result.andThen]
      rfl
    · have hb1 := but1_set w1 r (.mapIter (some b) clock (seen.push L[j].born) clock)
      exact ⟨hb1.os.trans ho, hb1.tape.trans ht, hb1.output.trans hu, hb1.size.trans (by rw [hh]), fun k hk => (hb1.block k hk).trans (by rw [hh])⟩

theorem entry_at {w : World} {r b : Nat} {es : Array MapEntry} {clock : Nat} {seen : Array Nat} {e : MapEntry} (hr : IterAt w r b clock (seen.push e.born)) (hb : w.heap[b]? = some (.map es clock)) (hs : MapKept.Stamped es clock) (he : e ∈ es.toList) :
    (Instr.entry (.pointer (some ⟨r, 0, none⟩))).run P w = .ok (.tuple #[e.key, e.val]) w := by
  unfold IterAt at hr
  have hn := ((MapKept.stamped_iff es clock).1 hs).2.1
  have hf : es.find? (·.born == e.born) = some e := by rw [← Array.find?_toList]; exact find_born e es.toList hn he
  simp only [Instr.entry, getObj, Sem.run_bind, Sem.run, hr, hb, Result.andThen, Array.back?_push, bne_self_eq_false, Bool.false_eq_true, if_false, hf]
  rfl
/-- How many entries are left: a loop's measure. -/
def left (es : Array MapEntry) (seen : Array Nat) : Nat := (es.toList.filter fun e => !seen.contains e.born).length
theorem left_less (es : Array MapEntry) (seen : Array Nat) (e : MapEntry) (he : e ∈ es.toList) (hn : e.born ∉ seen) : left es (seen.push e.born) < left es seen := by
  unfold left
  refine filter_lt (fun e => !seen.contains e.born) (fun x => !(seen.push e.born).contains x.born) ?_ e (by simpa using hn) (by simp) es.toList he
  intro x hx
  simp only [Array.contains_push, Bool.not_or, Bool.and_eq_true] at hx
  exact hx.1
def seenAt (w : World) (r : Nat) : Array Nat := match w.heap[r]? with | some (.mapIter _ _ s _) => s | _ => #[]
theorem seenAt_of {w : World} {r b clock : Nat} {seen : Array Nat} (h : IterAt w r b clock seen) : seenAt w r = seen := by
  unfold seenAt
  unfold IterAt at h
  rw [h]
end Go.Proofs.Ytkjliijcnllohaa.S
