/- stm: Publish. -/
import Derived.Test.YtkjliijcnllohaaHCheck
namespace Go.Proofs.Ytkjliijcnllohaa.S
open Go.RowKit Go.Proofs.YtkjliijcnllohaaW.PrintWords Go.Proofs.YtkjliijcnllohaaW.PrintLast Go.Proofs.YtkjliijcnllohaaW.PrintMore
set_option linter.unusedVariables false
set_option linter.unusedSimpArgs false
attribute [local go_sem ↓] Go.wp_at_zero Go.wp_at_succ

theorem map_len {t : TypeId} (ht : Try.prog.underlying t = some (.map (Try.prog.mapKeyOf t) (Try.prog.mapElemOf t))) {w : World} {b : Nat} {m : List (ByteArray × Value)} (h : MapIs w b m) (ty : TypeId) :
    (Builtin.len_ #[t] ty #[.map (some b)]).run Try.prog w = .ok (.int .i64 m.length) w := by
  obtain ⟨es, c, hb, hs, hp⟩ := h
  have h1 : es.size = m.length := by
    have := congrArg List.length hp
    simpa [pairs] using this
  rw [← h1]
  exact run_len_map w t ty b es c ht hb

/-- One slot put in another's place. -/
def repl (g : Nat) (x' y : Ent) : Ent := if y.g = g then x' else y
theorem repl_g {S : List Ent} {x x' : Ent} (hg : x'.g = x.g) : gs (S.map (repl x.g x')) = gs S := by
  unfold gs
  rw [List.map_map]
  refine List.map_congr_left fun y _ => ?_
  simp only [Function.comp_apply, repl]
  split
  · rename_i e; rw [hg, e]
  · rfl
theorem SpAt.repl_ {w w' : World} {s bm : Nat} {clock : Int} {S : List Ent} (h : SpAt w s bm clock S) {x : Ent} (hx : x ∈ S) (x' : Ent) (hg : x'.g = x.g) (hn : x'.name = x.name) (hl : ∀ b, x'.lock = some b → x.lock = some b) (hf : Fr [x.g] w w') (ho : w'.heap[x.g]? = some x'.obj) (hr : RowAt w' x'.v x'.bs) :
    SpAt w' s bm clock (S.map (repl x.g x')) := by
  have hm : ∀ y ∈ S, ∃ z, repl x.g x' y = z ∧ ((y = x ∧ z = x') ∨ (y.g ≠ x.g ∧ z = y)) := fun y hy => by
    unfold repl
    by_cases e : y.g = x.g
    · exact ⟨x', by rw [if_pos e], .inl ⟨same_g h.apart hy hx e, rfl⟩⟩
    · exact ⟨y, by rw [if_neg e], .inr ⟨e, rfl⟩⟩
  refine ⟨?_, ?_, ?_, ?_, ?_, ?_⟩
  · exact hf.get h.sp (by simp only [List.mem_singleton]; exact fun e => blk_ne h.sp (h.slot x hx) (by decide) e)
  · have := h.mp.fr hf (by simp only [List.mem_singleton]; exact fun e => h.g_ne hx e.symm)
    have e : (S.map (repl x.g x')).map Ent.pair = S.map Ent.pair := by
      rw [List.map_map]
      refine List.map_congr_left fun y hy => ?_
      obtain ⟨z, hz, ⟨rfl, rfl⟩ | ⟨_, rfl⟩⟩ := hm y hy
      · simp only [Function.comp_apply, hz, Ent.pair, hg, hn]
      · simp only [Function.comp_apply, hz]
    rw [e]; exact this
  · intro y hy
    obtain ⟨z, hz, rfl⟩ := List.mem_map.1 hy
    obtain ⟨u, hu, ⟨rfl, rfl⟩ | ⟨e, rfl⟩⟩ := hm z hz
    · rw [hu, hg]; exact ho
    · rw [hu]; exact hf.get (h.slot _ hz) (by simpa using e)
  · rw [List.pairwise_map]
    have hgg : ∀ y, (repl x.g x' y).g = y.g := fun y => by
      unfold repl; split
      · rename_i e; rw [hg, e]
      · rfl
    exact h.apart.imp (fun h => by rw [hgg, hgg]; exact h)
  · intro y hy b hb
    obtain ⟨z, hz, rfl⟩ := List.mem_map.1 hy
    obtain ⟨u, hu, ⟨rfl, rfl⟩ | ⟨e, rfl⟩⟩ := hm z hz
    · rw [hu] at hb
      obtain ⟨ca, hc⟩ := h.locks z hz b (hl b hb)
      exact hf.kinds b ca 67 _ hc
    · rw [hu] at hb
      obtain ⟨ca, hc⟩ := h.locks _ hz b hb
      exact hf.kinds b ca 67 _ hc
  · intro y hy
    obtain ⟨z, hz, rfl⟩ := List.mem_map.1 hy
    obtain ⟨u, hu, ⟨rfl, rfl⟩ | ⟨e, rfl⟩⟩ := hm z hz
    · rw [hu]; exact hr
    · rw [hu]; exact (h.rows _ hz).fr hf
theorem sv_repl {S : List Ent} (hn : S.Pairwise fun x y => x.name ≠ y.name) (hg : S.Pairwise fun x y => x.g ≠ y.g) {x x' : Ent} (hx : x ∈ S) (hxn : x'.name = x.name) (n : ByteArray) :
    sv (S.map (repl x.g x')) n = if n = x.name then x'.sv else sv S n := by
  unfold sv find
  rw [List.find?_map]
  have e0 : ∀ y ∈ S, ((fun y => decide (y.name = n)) ∘ repl x.g x') y = (fun y => decide (y.name = n)) y := fun y hy => by
    simp only [Function.comp_apply, repl]
    split
    · rename_i e; rw [hxn, same_g hg hy hx e]
    · rfl
  have e1 : S.find? ((fun y => decide (y.name = n)) ∘ repl x.g x') = S.find? (fun y => decide (y.name = n)) := by
    clear hn hg hx
    induction S with
    | nil => rfl
    | cons a S ih =>
      rw [List.find?_cons, List.find?_cons, e0 a (List.mem_cons_self ..), ih (fun y hy => e0 y (List.mem_cons_of_mem _ hy))]
  rw [e1]
  cases h : S.find? (fun y => decide (y.name = n)) with
  | none =>
    have : n ≠ x.name := fun e => by
      have := find_mem hn hx
      unfold find at this
      rw [← e, h] at this; cases this
    simp [this]
  | some y =>
    have hy := List.mem_of_find?_eq_some h
    have hyn : y.name = n := by simpa using List.find?_some h
    simp only [Option.map_some, Option.getD_some]
    by_cases e : n = x.name
    · have : y = x := by
        have h1 := find_mem hn hy
        have h2 := find_mem hn hx
        rw [hyn, e] at h1
        rw [h1] at h2
        exact Option.some.inj h2
      subst this
      rw [if_pos e]
      unfold repl
      rw [if_pos rfl]
    · rw [if_neg e]
      unfold repl
      rw [if_neg (fun eg => e (by rw [← hyn, same_g hg hy hx eg]))]
end Go.Proofs.Ytkjliijcnllohaa.S
