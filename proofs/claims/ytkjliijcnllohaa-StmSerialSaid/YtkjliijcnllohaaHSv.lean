/- stm: a space as what each name has; a step that makes slots does not change it. -/
import Derived.Test.YtkjliijcnllohaaHGet
namespace Go.Proofs.Ytkjliijcnllohaa.S
open Go.RowKit Go.Proofs.YtkjliijcnllohaaW.PrintWords Go.Proofs.YtkjliijcnllohaaW.PrintLast Go.Proofs.YtkjliijcnllohaaW.PrintMore
set_option linter.unusedVariables false
set_option linter.unusedSimpArgs false

/-- What a name has in a space. -/
structure Sv where
  ver : Int
  bs : List Int
  had : Bool
  lock : Option Nat
def Sv.none_ : Sv := ⟨0, [], false, none⟩
def Ent.sv (x : Ent) : Sv := ⟨x.ver, x.bs, x.had, x.lock⟩
def Sv.unlock (t : Nat) (x : Sv) : Sv := if x.lock = some t then { x with lock := none } else x
def find (S : List Ent) (n : ByteArray) : Option Ent := S.find? fun x => decide (x.name = n)
def sv (S : List Ent) (n : ByteArray) : Sv := ((find S n).map Ent.sv).getD Sv.none_
theorem SpAt.names {w : World} {s bm : Nat} {clock : Int} {S : List Ent} (h : SpAt w s bm clock S) : S.Pairwise fun x y => x.name ≠ y.name := by
  obtain ⟨es, c, hb, hs, hp⟩ := h.mp
  have := pairs_apart hs hp
  rw [List.pairwise_map] at this
  exact this
theorem find_mem {S : List Ent} (hn : S.Pairwise fun x y => x.name ≠ y.name) {x : Ent} (hx : x ∈ S) : find S x.name = some x := by
  induction S with
  | nil => cases hx
  | cons a S ih =>
    rw [List.pairwise_cons] at hn
    unfold find
    rw [List.find?_cons]
    by_cases ha : a.name = x.name
    · rw [decide_eq_true ha]
      rcases List.mem_cons.1 hx with e | h
      · rw [e]
      · exact absurd ha (hn.1 _ h)
    · rw [decide_eq_false ha]
      rcases List.mem_cons.1 hx with e | h
      · exact absurd (by rw [e]) ha
      · exact ih hn.2 h
theorem sv_mem {S : List Ent} (hn : S.Pairwise fun x y => x.name ≠ y.name) {x : Ent} (hx : x ∈ S) : sv S x.name = x.sv := by
  unfold sv; rw [find_mem hn hx]; rfl
theorem sv_ensure (S : List Ent) (name : ByteArray) (g : Nat) (n : ByteArray) : sv (ensure S name g) n = sv S n := by
  unfold ensure
  split
  · rfl
  · unfold sv find
    rw [List.find?_append]
    cases h : S.find? (fun x => decide (x.name = n)) with
    | some x => rfl
    | none =>
      simp only [Option.none_or]
      by_cases e : name = n
      · simp [newEnt, e]; rfl
      · simp [newEnt, e]
theorem sv_unlock (S : List Ent) (t : Nat) (n : ByteArray) : sv (S.map (Ent.unlock t)) n = (sv S n).unlock t := by
  unfold sv find
  rw [List.find?_map]
  have : ((fun x => decide (x.name = n)) ∘ Ent.unlock t) = fun x => decide (x.name = n) := by
    funext x; simp only [Function.comp_apply, Ent.unlock_name]
  rw [this]
  cases h : S.find? (fun x => decide (x.name = n)) with
  | none => simp [Sv.unlock, Sv.none_]
  | some x =>
    simp only [Option.map_some, Option.getD_some]
    unfold Ent.unlock Sv.unlock Ent.sv
    by_cases hl : x.lock = some t
    · simp [hl]
    · simp [hl]
/-- The slots of a later list: those of the first, or new ones; a new name is one of X. -/
structure Later (X : ByteArray → Prop) (w : World) (S S' : List Ent) : Prop where
  g : ∀ i, i < w.heap.size → i ∈ gs S' → i ∈ gs S
  nm : ∀ n ∈ S'.map (·.name), n ∈ S.map (·.name) ∨ X n
theorem ensure_names (S : List Ent) (name : ByteArray) (g : Nat) : ∀ n ∈ (ensure S name g).map (·.name), n ∈ S.map (·.name) ∨ n = name := fun n hn => by
  unfold ensure at hn
  split at hn
  · exact .inl hn
  · rw [List.map_append, List.mem_append] at hn
    rcases hn with hn | hn
    · exact .inl hn
    · exact .inr (by simpa [newEnt] using hn)
theorem later_ensure {X : ByteArray → Prop} (w : World) (S : List Ent) (name : ByteArray) (hX : X name) : Later X w S (ensure S name w.heap.size) :=
  ⟨fun i hi h => ensure_gs S name _ hi h, fun n hn => (ensure_names S name _ n hn).imp id (fun e => by rw [e]; exact hX)⟩
theorem later_refl (X : ByteArray → Prop) (w : World) (S : List Ent) : Later X w S S := ⟨fun _ _ h => h, fun _ h => .inl h⟩
theorem later_trans {X : ByteArray → Prop} {w w' : World} {S S' S'' : List Ent} (h : Later X w S S') (k : Later X w' S' S'') (hs : w.heap.size ≤ w'.heap.size) : Later X w S S'' :=
  ⟨fun i hi hm => h.g i hi (k.g i (by omega) hm), fun n hn => (k.nm n hn).elim (h.nm n) .inr⟩
theorem Later.mono {X Y : ByteArray → Prop} {w : World} {S S' : List Ent} (h : Later X w S S') (hX : ∀ n, X n → Y n) : Later Y w S S' := ⟨h.g, fun n hn => (h.nm n hn).imp id (hX n)⟩
/-- A step that leaves each slot its place and name. -/
theorem Later.map {X : ByteArray → Prop} {w : World} {S S' : List Ent} (h : Later X w S S') {f : Ent → Ent} (hg : ∀ x, (f x).g = x.g) (hn : ∀ x, (f x).name = x.name) : Later X w S (S'.map f) := by
  have e1 : gs (S'.map f) = gs S' := by unfold gs; rw [List.map_map]; exact List.map_congr_left fun x _ => hg x
  have e2 : (S'.map f).map (·.name) = S'.map (·.name) := by rw [List.map_map]; exact List.map_congr_left fun x _ => hn x
  exact ⟨fun i hi hm => h.g i hi (by rw [← e1]; exact hm), fun n hm => h.nm n (by rw [← e2]; exact hm)⟩
/-- .. and its size. -/
theorem Later.size {X : ByteArray → Prop} {w w' : World} {S S' : List Ent} (h : Later X w S S') (hs : w'.heap.size ≤ w.heap.size) : Later X w' S S' := ⟨fun i hi hm => h.g i (by omega) hm, h.nm⟩
theorem gs_unlock (S : List Ent) (t : Nat) : gs (S.map (Ent.unlock t)) = gs S := by
  unfold gs; rw [List.map_map]; exact List.map_congr_left fun x _ => Ent.unlock_g t x

/-- at, in these words. -/
theorem at_sv {w : World} {s bm : Nat} {clock : Int} {S : List Ent} {X : ByteArray → Prop} (h : SpAt w s bm clock S) (name : ByteArray) (hX : X name) :
    Calls Try.prog 37 #[ptr s, .string name] w fun e w' => ∃ S', ∃ x ∈ S', x.name = name ∧ x.sv = sv S name ∧ e = .returned (ptr x.g) ∧ SpAt w' s bm clock S' ∧ (∀ n, sv S' n = sv S n) ∧ Later X w S S' ∧ Fr [bm] w w' := by
  refine (at_calls h name).mono ?_
  rintro e w' ⟨x, hx, hn, he, hs, hf⟩
  exact ⟨_, x, hx, hn, (sv_mem hs.names hx).symm.trans (by rw [hn]; exact sv_ensure S name _ name), he, hs, sv_ensure S name _, later_ensure w S name hX, hf⟩
end Go.Proofs.Ytkjliijcnllohaa.S
