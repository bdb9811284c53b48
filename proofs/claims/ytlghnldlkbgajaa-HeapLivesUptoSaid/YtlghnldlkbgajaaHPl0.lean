
/- heap: appends and copies of words. -/
import Derived.Test.YtlghnldlkbgajaaHCollect
import Derived.Laws.OwnMore
import Derived.Laws.CopyOwn
namespace Go.Proofs.Ytlghnldlkbgajaa.S
open Go.RowKit Go.Proofs.YtlghnldlkbgajaaW.PrintWords Go.Proofs.YtlghnldlkbgajaaW.PrintLast Go.Proofs.YtlghnldlkbgajaaW.PrintMore
set_option linter.unusedVariables false
set_option linter.unusedSimpArgs false

theorem append_zero {P : Program} {w : World} (base : Nat) (t ty e : TypeId) (i : TypeInfo) (size : Nat) (ht : P.underlying t = some (.slice e)) (hi : P.info? e = some i)
    (v : Value) (n : Nat) (xs : List Value) (hown : w.ownsRow base e size v n xs) (A : Option Addr) (c : Nat) :
    (Builtin.append_ #[t, t] ty #[v, .slice A 0 c]).run P w = .ok v w := by
  rcases hown.2 with ⟨rfl, rfl⟩ | ⟨g, cap, cur, rfl, _, _, hnc, _⟩
  · cases A <;> simp [Builtin.append_, run_underlying ht, sizeOf, typeInfo, hi, Builtin.lenOf, Builtin.firstCells, loadCells, loadCellsFrom]
  · cases A <;> simp [Builtin.append_, run_underlying ht, sizeOf, typeInfo, hi, Builtin.lenOf, Builtin.firstCells, hnc, storeCells, loadCells, loadCellsFrom]
/-- append of a row of words. -/
theorem append_words {w : World} {R : Option Addr} {rc : Nat} {n : Nat} {l m : List Int} (hown : w.ownsRow 0 28 1 (.slice R n rc) n (l.map (Value.int .i64))) {A : Option Addr} {c : Nat} (hne : m ≠ [] → ∃ q, A = some ⟨q, 0, none⟩ ∧ Row w q m) (h63 : n + m.length ≤ 1000000000) :
    ∃ R' rc' w', (∀ ty, (Builtin.append_ #[33, 33] ty #[.slice R n rc, .slice A m.length c]).run Try.prog w = .ok (.slice R' (n + m.length) rc') w') ∧ w'.ownsRow 0 28 1 (.slice R' (n + m.length) rc') (n + m.length) ((l ++ m).map (Value.int .i64)) ∧ FrP (fun k => R = some ⟨k, 0, none⟩) w w' ∧
      ∀ k, R' = some ⟨k, 0, none⟩ → R = some ⟨k, 0, none⟩ ∨ w.heap.size ≤ k := by
  obtain ⟨i0, hi, hz0, hz1, hz2⟩ := info_parts word_info
  by_cases hm : m = []
  · subst hm
    exact ⟨R, rc, w, fun ty => append_zero 0 33 ty 28 i0 1 Try.underlying33 hi _ n _ hown A c, by simpa using hown, FrP.refl _ _, fun k hk => .inl hk⟩
  · obtain ⟨q, rfl, hrow⟩ := hne hm
    have hml : 0 < m.length := List.length_pos_iff.2 hm
    have hnews : ∀ j u, (m.map (Value.int .i64))[j]? = some u → w.cell? ((⟨q, 0, none⟩ : Addr).add j) = some u := fun j u hj => by
      have hjn : j < m.length := by
        have := (List.getElem?_eq_some_iff.1 hj).1
        simpa using this
      rw [show (⟨q, 0, none⟩ : Addr).add j = ⟨q, j, none⟩ from by unfold Addr.add; split <;> simp_all]
      rw [hrow.cell hjn]
      have e : (m.map (Value.int .i64))[j]? = some (Value.int .i64 (m.getD j 0)) := by simp [List.getD, List.getElem?_eq_getElem (show j < m.length by omega)]
      rw [e] at hj
      exact hj
    have hone : ∀ u ∈ m.map (Value.int .i64), u.oneCell' = true := fun u hu => by obtain ⟨x, _, rfl⟩ := List.mem_map.1 hu; rfl
    obtain ⟨v', w', h1, h2, h3, -⟩ := run_append_own (P := Try.prog) w 0 33 33 28 i0 (.int .i64 0) 1 8 Try.underlying33 hi hz0 hz1 hz2 rfl (by decide) (.slice R n rc) n (l.map (Value.int .i64)) hown ⟨q, 0, none⟩ m.length c (m.map (Value.int .i64)) (by simp) hnews hone (by unfold maxLen; omega) (by omega) (Nat.zero_le _)
    have hblk : ∃ R' rc', v' = .slice R' (n + m.length) rc' ∧ ∀ k, R' = some ⟨k, 0, none⟩ → R = some ⟨k, 0, none⟩ ∨ w.heap.size ≤ k := by
      rcases hown.2 with ⟨hv, hn0⟩ | ⟨g, cap, cur, hv, hbg, hg, hnc, hcm, hcs, htake⟩
      · rw [hv] at h1
        have hr := run_append_nil (P := Try.prog) w 33 33 28 i0 (.int .i64 0) Try.underlying33 hi hz0 ⟨q, 0, none⟩ m.length c (m.map (Value.int .i64)) (by rw [hz1]; simp) hnews (by omega) (by omega) (by rw [hz2]; omega)
        rw [hr] at h1
        have h1 := (Result.ok.inj h1).1
        subst hn0
        exact ⟨some ⟨w.heap.size, 0, none⟩, grownCap w m.length 0 28, by rw [← h1]; simp, fun k hk => by
          have : w.heap.size = k := by simpa using hk
          exact .inr (by omega)⟩
      · have hv' := hv
        simp only [Value.slice.injEq] at hv'
        obtain ⟨rfl, -, rfl⟩ := hv'
        by_cases hroom : n + m.length ≤ rc
        · have hr := run_append_room (P := Try.prog) w 33 33 28 i0 Try.underlying33 hi g n rc cur hg ⟨q, 0, none⟩ m.length c (m.map (Value.int .i64)) (by rw [hz1]; simp) hnews hone hroom (by rw [hz1]; simp; omega)
          rw [hr] at h1
          have h1 := (Result.ok.inj h1).1
          exact ⟨_, _, h1.symm, fun k hk => .inl hk⟩
        · have holds : ∀ j u, (l.map (Value.int .i64))[j]? = some u → w.cell? ((⟨g, 0, none⟩ : Addr).add j) = some u := hown.cells (g := g) rfl
          have hr := run_append_grow (P := Try.prog) w 33 33 28 i0 (.int .i64 0) Try.underlying33 hi hz0 ⟨g, 0, none⟩ n rc (l.map (Value.int .i64)) (by rw [hz1]; exact hown.1) holds ⟨q, 0, none⟩ m.length c (m.map (Value.int .i64)) (by rw [hz1]; simp) hnews (by omega) (by omega) (growslice_fits (by omega) (by rw [hz2]; omega))
          rw [hr] at h1
          have h1 := (Result.ok.inj h1).1
          exact ⟨_, _, h1.symm, fun k hk => by
            have : w.heap.size = k := by simpa using hk
            exact .inr (by omega)⟩
    obtain ⟨R', rc', rfl, hblk⟩ := hblk
    refine ⟨R', rc', w', fun ty => h1, by rw [List.map_append]; exact h2, ⟨h3.os, h3.tape, h3.output, h3.size, fun k hk hT => h3.block k hk (fun e => hT ?_)⟩, hblk⟩
    rcases hown.2 with ⟨hv, -⟩ | ⟨g, cap, cur, hv, -⟩
    · rw [hv] at e; cases e
    · rw [hv] at e
      have e : k = g := by simpa [Value.ownBlock] using e
      simp only [Value.slice.injEq] at hv
      rw [hv.1, e]
theorem wp_append_words {P : Program} {w : World} {o : Oper} {a : Act} {K : Act → World → Prop} {Q : Exit → Act → World → Prop} (s x : Operand) (t : TypeId)
    (ho : o.op = .call { callee := .builtin .append, args := #[s, x], argTypes := #[t, t] }) (v u v' : Value) (w' : World) (hs : a.eval s = v) (hx : a.eval x = u) (hr : ∀ ty, (Builtin.append_ #[t, t] ty #[v, u]).run P w = .ok v' w') (h : K (a.put o.dst v') w') : o.wp P a w K Q := by
  unfold Oper.wp execOp
  simp only [ho, resolve, invoke, builtin, Sem.run_bind, Sem.run_pure, Result.andThen_ok, List.map_toArray, List.map_cons, List.map_nil, hs, hx, hr]
  exact h
/-- copy of as many words as the row has. -/
theorem copy_words {w : World} {A S : Option Addr} {c sc q : Nat} {old m : List Int} (hA : m ≠ [] → A = some ⟨q, 0, none⟩) (hq : m ≠ [] → Row w q old) (hlen : old.length = m.length) (hsrc : m ≠ [] → ∃ ad, S = some ad ∧ ∀ j, j < m.length → w.cell? (ad.add j) = some (.int .i64 (m.getD j 0))) :
    ∃ w', (∀ ty, (Builtin.copy_ #[33, 33] ty #[.slice A m.length c, .slice S m.length sc]).run Try.prog w = .ok (goInt m.length) w') ∧ (m ≠ [] → Row w' q m) ∧ FrP (fun k => m ≠ [] ∧ k = q) w w' := by
  have hsz : (Try.prog.info? 28).map (·.size) = some 1 := by kernel_rfl
  by_cases hm : m = []
  · subst hm
    exact ⟨w, fun ty => run_copy_none (P := Try.prog) w 33 33 ty 28 A S 0 c 0 sc Try.underlying33 hsz rfl, fun h => absurd rfl h, FrP.refl _ _⟩
  · obtain ⟨cur, hc, hcell⟩ := hq hm
    obtain ⟨ad, rfl, hs⟩ := hsrc hm
    have hA := hA hm
    subst hA
    have hfit : 0 + (m.map (Value.int .i64)).length ≤ cur.size := by
      have h1 : 0 < m.length := List.length_pos_iff.2 hm
      have := hcell (m.length - 1) (by omega)
      have := (Array.getElem?_eq_some_iff.1 this).1
      simp; omega
    have hr := fun ty => run_copy_row (P := Try.prog) w 33 33 ty 28 q 0 m.length c ad m.length sc cur 28 (m.map (Value.int .i64)) Try.underlying33 hsz hc (by simp) (fun j v hj => by
      have hjn : j < m.length := by
        have := (List.getElem?_eq_some_iff.1 hj).1
        simpa using this
      rw [hs j hjn]
      have e : (m.map (Value.int .i64))[j]? = some (Value.int .i64 (m.getD j 0)) := by simp [List.getD, List.getElem?_eq_getElem (show j < m.length by omega)]
      rw [e] at hj
      exact hj) hfit (fun u hu => by obtain ⟨x, _, rfl⟩ := List.mem_map.1 hu; rfl)
    simp only [List.length_map] at hr
    refine ⟨_, hr, fun _ => ⟨_, setRow_heap w q _ _ 28 (0, 0) hc, fun j hj => ?_⟩, rfl, rfl, rfl, by simp, fun k _ hk => setRow_other w q k _ (fun e => hk ⟨hm, e⟩)⟩
    simp [List.getElem?_append, hj, List.getD]
end Go.Proofs.Ytlghnldlkbgajaa.S
