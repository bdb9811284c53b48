/- stm: StmSerial: each call of a transaction, in terms of all that the law keeps. -/
import Derived.Test.YtkjliijcnllohaaHSerB
namespace Go.Proofs.Ytkjliijcnllohaa.S
open Go.RowKit Go.Proofs.YtkjliijcnllohaaW.PrintWords Go.Proofs.YtkjliijcnllohaaW.PrintLast Go.Proofs.YtkjliijcnllohaaW.PrintMore
set_option linter.unusedVariables false
set_option linter.unusedSimpArgs false
/-- All that the law keeps. -/
structure Ser (w0 w : World) (s bm mb lb : Nat) (v5 : Value) (N : Nat) (clock : Int) (S : List Ent) (Q : List Sn) (Mm Lm : List (ByteArray × Value)) (mv : ByteArray → List Int) : Prop where
  mem : Mem w0 w s bm clock S Q v5 mb lb Mm Lm mv
  log : Log clock N S Q Lm
  mod : Mod S Mm mv
section
variable {w0 w w' : World} {s bm mb lb : Nat} {v5 : Value} {N : Nat} {clock : Int} {S : List Ent} {Q : List Sn} {Mm Lm : List (ByteArray × Value)} {mv : ByteArray → List Int}
theorem Ser.new (H : Ser w0 w s bm mb lb v5 N clock S Q Mm Lm mv) (hb : Below w.heap.size w w') : Ser w0 w' s bm mb lb v5 N clock S Q Mm Lm mv := ⟨H.mem.new hb, H.log, H.mod⟩
theorem Ser.mono (H : Ser w0 w s bm mb lb v5 N clock S Q Mm Lm mv) {N' : Nat} (h : N ≤ N') : Ser w0 w s bm mb lb v5 N' clock S Q Mm Lm mv := ⟨H.mem, H.log.mono h, H.mod⟩
/-- What a call of transaction j leaves: the same slots' versions and bytes; its own things turned. -/
def Kept1 (w0 w w' : World) (s bm mb lb : Nat) (v5 : Value) (N : Nat) (clock : Int) (S : List Ent) (Q : List Sn) (Mm Lm : List (ByteArray × Value)) (mv : ByteArray → List Int) (j : Nat) (hj : j < Q.length) (S' : List Ent) (phase' : Int) (mr' m' : List (ByteArray × Value)) (wb' : ByteArray → List Int) : Prop :=
  Ser w0 w' s bm mb lb v5 N clock S' (Q.set j { Q[j] with phase := phase', mr := mr', m := m', wb := wb' }) Mm Lm mv ∧ Fq w w' ∧ Same S S'
theorem Ser.self (H : Ser w0 w s bm mb lb v5 N clock S Q Mm Lm mv) {j : Nat} (hj : j < Q.length) (hb : Below w.heap.size w w') : Kept1 w0 w w' s bm mb lb v5 N clock S Q Mm Lm mv j hj S Q[j].phase Q[j].mr Q[j].m Q[j].wb := by
  have e : Q.set j { Q[j] with phase := Q[j].phase, mr := Q[j].mr, m := Q[j].m, wb := Q[j].wb } = Q := by
    show Q.set j Q[j] = Q
    exact List.set_getElem_self ..
  unfold Kept1
  rw [e]
  exact ⟨H.new hb, Fq.ofBelow hb, Same.refl S⟩
theorem Ser.call1 (H : Ser w0 w s bm mb lb v5 N clock S Q Mm Lm mv) {j : Nat} (hj : j < Q.length) {X : ByteArray → Prop} {S' : List Ent} {phase' : Int} {mr' m' : List (ByteArray × Value)} {wb' : ByteArray → List Int} (hf : Fr (Tch s bm Q[j].t Q[j].br Q[j].bw S) w w') (hS : SpAt w' s bm clock S') (hL : Later X w S S') (hX : ∀ n, X n → nmK n) (hx : TxIs w' s bm Q[j].t Q[j].br Q[j].bw Q[j].time phase' mr' m') (hr : RowsOf w' m' wb') (hs : Same S S') (hmr : ∀ n, has Q[j].mr n = true → has mr' n = true) (k1 : ∀ p ∈ m', nmK p.1) (k2 : ∀ p ∈ mr', nmK p.1) :
    Kept1 w0 w w' s bm mb lb v5 N clock S Q Mm Lm mv j hj S' phase' mr' m' wb' := by
  obtain ⟨h1, h2⟩ := H.mem.call hj hf hS hL hx hr
  exact ⟨⟨h1, H.log.call hj hs (fun n hn => (hL.nm n hn).imp id (hX n)) hmr k1 k2, H.mod.same hs⟩, h2, hs⟩
theorem nm_has {m : List (ByteArray × Value)} (h : ∀ p ∈ m, nmK p.1) (n : ByteArray) (hn : has m n = true) : nmK n := by
  obtain ⟨p, hp, rfl⟩ := has_iff.1 hn
  exact h p hp
theorem nm_put {m : List (ByteArray × Value)} (h : ∀ p ∈ m, nmK p.1) {n : ByteArray} (hn : nmK n) (v : Value) : ∀ p ∈ put m n v, nmK p.1 := fun p hp => by
  rcases mem_put hp with rfl | ⟨hp, -⟩
  · exact hn
  · exact h p hp
/-- Get. -/
theorem get_ev (H : Ser w0 w s bm mb lb v5 N clock S Q Mm Lm mv) {j : Nat} (hj : j < Q.length) (k : ByteArray) :
    Calls Try.prog 12 #[ptr Q[j].t, .string (nmOf k)] w fun e w' => ∃ A n c er S' phase' mr', e = .returned (.tuple #[.slice A n c, .int .i64 er]) ∧ Kept1 w0 w w' s bm mb lb v5 N clock S Q Mm Lm mv j hj S' phase' mr' Q[j].m Q[j].wb ∧
      (er = 0 → has Q[j].m (nmOf k) = false → RowAt w' (.slice A n c) (bsS S' (nmOf k)) ∧ verS S' (nmOf k) ≤ Q[j].time ∧ has mr' (nmOf k) = true) := by
  have hx := H.mem.sn j hj
  have hk := H.log.nmW j hj
  by_cases hp : Q[j].phase = 0
  · have htx := hx.tx.1
    rw [hp] at htx
    cases hg : get? Q[j].m (nmOf k) with
    | some v =>
      refine (get_own htx.tx htx.wr (nmOf k) (nmOf_fit k) hg (hx.rw_ _ (get_some_mem hg))).mono ?_
      rintro e w' ⟨v', rfl, hr, hf⟩
      obtain ⟨A, n, c, rfl⟩ := hr.form
      refine ⟨A, n, c, 0, _, _, _, rfl, H.self hj (hf.below (Nat.le_refl _) (fun k hk => by simp at hk)), fun _ h => ?_⟩
      unfold has at h
      rw [hg] at h; cases h
    | none =>
      refine (get_is H.mem.st.sp htx (nmOf k) (nmOf_fit k) hg).mono ?_
      rintro e w' ⟨S', hf, hS, hL, ⟨hgood, v', rfl, hr, ht, hs⟩ | ⟨-, rfl, ht, hs⟩⟩
      · obtain ⟨A, n, c, rfl⟩ := hr.form
        refine ⟨A, n, c, 0, S', 0, put Q[j].mr (nmOf k) (.bool true), rfl, H.call1 hj hf hS hL (fun n e => by rw [e]; exact nmK_of k) ht (hx.rw_.fr hf) (Same.of hs) (fun n hn => by rw [has_put, hn]; simp) hk.1 (nm_put hk.2 (nmK_of k) _), fun _ _ => ⟨?_, ?_, by rw [has_put]; simp⟩⟩
        · unfold bsS; rw [hs]; exact hr
        · unfold verS; rw [hs]; exact hgood.2
      · exact ⟨none, 0, 0, 180, S', 4, Q[j].mr, rfl, H.call1 hj hf hS hL (fun n e => by rw [e]; exact nmK_of k) ht (hx.rw_.fr hf) (Same.unlock hs) (fun n hn => hn) hk.1 hk.2, fun h => by cases h⟩
  · refine (get_state hx.tx.1.tx hp (nmOf k)).mono ?_
    rintro e w' ⟨rfl, rfl⟩
    exact ⟨none, 0, 0, 3, _, _, _, rfl, H.self hj (Below.refl _ _), fun h => by cases h⟩
/-- Put. -/
theorem put_ev (H : Ser w0 w s bm mb lb v5 N clock S Q Mm Lm mv) {j : Nat} (hj : j < Q.length) (k : ByteArray) {v : Value} {xs : List Int} (hv : Reads w v xs) :
    Calls Try.prog 10 #[ptr Q[j].t, .string (nmOf k), v] w fun e w' => ∃ er S' phase' m' wb', e = .returned (.int .i64 er) ∧ Kept1 w0 w w' s bm mb lb v5 N clock S Q Mm Lm mv j hj S' phase' Q[j].mr m' wb' := by
  have hx := H.mem.sn j hj
  have hk := H.log.nmW j hj
  by_cases hp : Q[j].phase = 0
  · have htx := hx.tx.1
    rw [hp] at htx
    refine (put_is H.mem.st.sp htx (nmOf k) (nmOf_fit k) hv).mono ?_
    rintro e w' ⟨rfl, v', hr, hS, ht, hf⟩
    refine ⟨0, S, 0, put Q[j].m (nmOf k) v', (fun n => if n = nmOf k then xs else Q[j].wb n), rfl, H.call1 hj hf hS (later_refl (fun _ => False) _ _) (fun _ h => h.elim) ht (RowsOf.put (hx.rw_.fr hf) (by simpa using hr) (fun n hn => if_neg hn)) (Same.refl S) (fun n hn => hn) (nm_put hk.1 (nmK_of k) _) hk.2⟩
  · refine (put_state hx.tx.1.tx hp (nmOf k) v).mono ?_
    rintro e w' ⟨rfl, rfl⟩
    exact ⟨3, _, _, _, _, rfl, H.self hj (Below.refl _ _)⟩
/-- Lock. -/
theorem lock_ev (H : Ser w0 w s bm mb lb v5 N clock S Q Mm Lm mv) {j : Nat} (hj : j < Q.length) :
    Calls Try.prog 11 #[ptr Q[j].t] w fun e w' => ∃ er S' phase', e = .returned (.int .i64 er) ∧ Kept1 w0 w w' s bm mb lb v5 N clock S Q Mm Lm mv j hj S' phase' Q[j].mr Q[j].m Q[j].wb ∧ (er = 0 → phase' = 1) := by
  have hx := H.mem.sn j hj
  have hk := H.log.nmW j hj
  by_cases hp : Q[j].phase = 0
  · have htx := hx.tx.1
    rw [hp] at htx
    refine (lock_is H.mem.st.sp htx).mono ?_
    rintro e w' ⟨S', hf, hS, hL, ⟨-, rfl, ht, hs⟩ | ⟨-, rfl, ht, hs⟩⟩
    · exact ⟨0, S', 1, rfl, H.call1 hj hf hS hL (nm_has hk.1) ht (hx.rw_.fr hf) (Same.lock hs) (fun n hn => hn) hk.1 hk.2, fun _ => rfl⟩
    · exact ⟨180, S', 4, rfl, H.call1 hj hf hS hL (nm_has hk.1) ht (hx.rw_.fr hf) (Same.unlock hs) (fun n hn => hn) hk.1 hk.2, fun h => by cases h⟩
  · refine (lock_state hx.tx.1.tx hp).mono ?_
    rintro e w' ⟨rfl, rfl⟩
    exact ⟨3, _, _, rfl, H.self hj (Below.refl _ _), fun h => by cases h⟩
/-- Check, of a locked one. -/
theorem check_ev (H : Ser w0 w s bm mb lb v5 N clock S Q Mm Lm mv) {j : Nat} (hj : j < Q.length) (hp : Q[j].phase = 1) :
    Calls Try.prog 15 #[ptr Q[j].t] w fun e w' => ∃ er S' phase', e = .returned (.int .i64 er) ∧ Kept1 w0 w w' s bm mb lb v5 N clock S Q Mm Lm mv j hj S' phase' Q[j].mr Q[j].m Q[j].wb := by
  have hx := H.mem.sn j hj
  have hk := H.log.nmW j hj
  refine (check_is (.inl hp) H.mem.st.sp hx.tx.1).mono ?_
  rintro e w' ⟨S', hf, hS, hL, ⟨-, rfl, ht, hs⟩ | ⟨-, rfl, ht, hs⟩⟩
  · exact ⟨0, S', 2, rfl, H.call1 hj hf hS hL (nm_has hk.2) ht (hx.rw_.fr hf) (Same.of hs) (fun n hn => hn) hk.1 hk.2⟩
  · exact ⟨180, S', 4, rfl, H.call1 hj hf hS hL (nm_has hk.2) ht (hx.rw_.fr hf) (Same.unlock hs) (fun n hn => hn) hk.1 hk.2⟩
/-- Publish. -/
theorem publish_ev (H : Ser w0 w s bm mb lb v5 N clock S Q Mm Lm mv) (hN : N ≤ 1000000) {j : Nat} (hj : j < Q.length) :
    Calls Try.prog 16 #[ptr Q[j].t] w fun e w' => (∃ er S' phase', er ≠ 0 ∧ e = .returned (.int .i64 er) ∧ Kept1 w0 w w' s bm mb lb v5 N clock S Q Mm Lm mv j hj S' phase' Q[j].mr Q[j].m Q[j].wb) ∨
      (∃ clock' S', e = .returned (.int .i64 0) ∧ Mem w0 w' s bm clock' S' (Q.set j { Q[j] with phase := 3 }) v5 mb lb Mm Lm mv ∧ Log clock' (N + 1) S' (Q.set j { Q[j] with phase := 3 }) Lm ∧ Fq w w' ∧ (∀ n b, Q[j].R n = some b → bsS S n = b) ∧ ∀ n, bsS S' n = if has Q[j].m n = true then Q[j].wb n else bsS S n) := by
  have hx := H.mem.sn j hj
  have hk := H.log.nmW j hj
  by_cases hp : Q[j].phase = 2
  · have htx := hx.tx.1
    rw [hp] at htx
    have hc := H.log.hc
    refine (publish_is H.mem.st.sp htx hx.rw_ hc.1 (by omega)).mono ?_
    rintro e w' ⟨S', hf, hL, ⟨hgood, rfl, hS, ht, hs⟩ | ⟨-, rfl, hS, ht, hs⟩⟩
    · have hX : ∀ n ∈ S'.map (·.name), n ∈ S.map (·.name) ∨ nmK n := fun n hn => (hL.nm n hn).imp id (fun h => h.elim (nm_has hk.1 n) (nm_has hk.2 n))
      obtain ⟨h1, h2⟩ := H.mem.call hj hf hS hL ht (hx.rw_.fr hf)
      refine .inr ⟨_, S', rfl, h1, H.log.publish hj rfl hs hX, h2, fun n b hb => (H.log.ser j hj).serial (fun n hn => (hgood n hn).2) hb, fun n => ?_⟩
      unfold bsS; rw [hs, (Sv.unlock_same _ _).2.1]; split <;> rfl
    · exact .inl ⟨180, S', 4, by decide, rfl, H.call1 hj hf hS hL (fun n h => h.elim (nm_has hk.1 n) (nm_has hk.2 n)) ht (hx.rw_.fr hf) (Same.unlock hs) (fun n hn => hn) hk.1 hk.2⟩
  · refine (publish_state hx.tx.1.tx hp).mono ?_
    rintro e w' ⟨rfl, rfl⟩
    exact .inl ⟨3, _, _, by decide, rfl, H.self hj (Below.refl _ _)⟩
end
end Go.Proofs.Ytkjliijcnllohaa.S
namespace Go.Proofs.Ytkjliijcnllohaa.S
open Go.RowKit Go.Proofs.YtkjliijcnllohaaW.PrintWords Go.Proofs.YtkjliijcnllohaaW.PrintLast Go.Proofs.YtkjliijcnllohaaW.PrintMore
set_option linter.unusedVariables false
set_option linter.unusedSimpArgs false
/-- What a transaction becomes by a call. -/
def Sn.to (x : Sn) (phase : Int) (mr m : List (ByteArray × Value)) (wb : ByteArray → List Int) : Sn := { x with phase := phase, mr := mr, m := m, wb := wb }
section
variable {w0 w w' : World} {s bm mb lb : Nat} {v5 : Value} {N : Nat} {clock : Int} {S : List Ent} {Q : List Sn} {Mm Lm : List (ByteArray × Value)} {mv : ByteArray → List Int} {x : Sn} {j : Nat}
/-- Transaction j is x. -/
def IsAt (Q : List Sn) (j : Nat) (x : Sn) : Prop := ∃ h : j < Q.length, Q[j]'h = x
theorem Kept1.open_ {hj : j < Q.length} (hx : Q[j]'hj = x) {S' : List Ent} {phase' : Int} {mr' m' : List (ByteArray × Value)} {wb' : ByteArray → List Int} (h : Kept1 w0 w w' s bm mb lb v5 N clock S Q Mm Lm mv j hj S' phase' mr' m' wb') :
    ∃ Q', IsAt Q' j (x.to phase' mr' m' wb') ∧ Ser w0 w' s bm mb lb v5 N clock S' Q' Mm Lm mv ∧ Fq w w' ∧ Same S S' := by
  subst hx
  exact ⟨_, ⟨by rw [List.length_set]; exact hj, by rw [qset_at, if_pos rfl]; rfl⟩, h.1, h.2.1, h.2.2⟩
theorem Ser.get_x (H : Ser w0 w s bm mb lb v5 N clock S Q Mm Lm mv) (hx : IsAt Q j x) (k : ByteArray) :
    Calls Try.prog 12 #[ptr x.t, .string (nmOf k)] w fun e w' => ∃ A n c er S' phase' mr' Q', e = .returned (.tuple #[.slice A n c, .int .i64 er]) ∧ IsAt Q' j (x.to phase' mr' x.m x.wb) ∧ Ser w0 w' s bm mb lb v5 N clock S' Q' Mm Lm mv ∧ Fq w w' ∧
      (er = 0 → has x.m (nmOf k) = false → RowAt w' (.slice A n c) (bsS S' (nmOf k)) ∧ verS S' (nmOf k) ≤ x.time ∧ has mr' (nmOf k) = true) := by
  obtain ⟨hj, rfl⟩ := hx
  refine (get_ev H hj k).mono ?_
  rintro e w' ⟨A, n, c, er, S', phase', mr', rfl, hk, hok⟩
  obtain ⟨Q', h1, h2, h3, -⟩ := hk.open_ rfl
  exact ⟨A, n, c, er, S', phase', mr', Q', rfl, h1, h2, h3, hok⟩
theorem Ser.put_x (H : Ser w0 w s bm mb lb v5 N clock S Q Mm Lm mv) (hx : IsAt Q j x) (k : ByteArray) {v : Value} {xs : List Int} (hv : Reads w v xs) :
    Calls Try.prog 10 #[ptr x.t, .string (nmOf k), v] w fun e w' => ∃ er S' Q', e = .returned (.int .i64 er) ∧ Ser w0 w' s bm mb lb v5 N clock S' Q' Mm Lm mv ∧ Fq w w' := by
  obtain ⟨hj, rfl⟩ := hx
  refine (put_ev H hj k hv).mono ?_
  rintro e w' ⟨er, S', phase', m', wb', rfl, hk⟩
  exact ⟨er, S', _, rfl, hk.1, hk.2.1⟩
theorem Ser.lock_x (H : Ser w0 w s bm mb lb v5 N clock S Q Mm Lm mv) (hx : IsAt Q j x) :
    Calls Try.prog 11 #[ptr x.t] w fun e w' => ∃ er S' phase' Q', e = .returned (.int .i64 er) ∧ IsAt Q' j (x.to phase' x.mr x.m x.wb) ∧ Ser w0 w' s bm mb lb v5 N clock S' Q' Mm Lm mv ∧ Fq w w' ∧ (er = 0 → phase' = 1) := by
  obtain ⟨hj, rfl⟩ := hx
  refine (lock_ev H hj).mono ?_
  rintro e w' ⟨er, S', phase', rfl, hk, hok⟩
  obtain ⟨Q', h1, h2, h3, -⟩ := hk.open_ rfl
  exact ⟨er, S', phase', Q', rfl, h1, h2, h3, hok⟩
theorem Ser.check_x (H : Ser w0 w s bm mb lb v5 N clock S Q Mm Lm mv) (hx : IsAt Q j x) (hp : x.phase = 1) :
    Calls Try.prog 15 #[ptr x.t] w fun e w' => ∃ er S' Q', e = .returned (.int .i64 er) ∧ Ser w0 w' s bm mb lb v5 N clock S' Q' Mm Lm mv := by
  obtain ⟨hj, rfl⟩ := hx
  refine (check_ev H hj hp).mono ?_
  rintro e w' ⟨er, S', phase', rfl, hk⟩
  exact ⟨er, S', _, rfl, hk.1⟩
theorem Ser.publish_x (H : Ser w0 w s bm mb lb v5 N clock S Q Mm Lm mv) (hN : N ≤ 1000000) (hx : IsAt Q j x) :
    Calls Try.prog 16 #[ptr x.t] w fun e w' => ∃ er, e = .returned (.int .i64 er) ∧ ((er ≠ 0 ∧ ∃ S' Q', Ser w0 w' s bm mb lb v5 N clock S' Q' Mm Lm mv) ∨
      (er = 0 ∧ ∃ clock' S' Q', IsAt Q' j { x with phase := 3 } ∧ Mem w0 w' s bm clock' S' Q' v5 mb lb Mm Lm mv ∧ Log clock' (N + 1) S' Q' Lm ∧ Fq w w' ∧ (∀ n b, x.R n = some b → bsS S n = b) ∧ ∀ n, bsS S' n = if has x.m n = true then x.wb n else bsS S n)) := by
  obtain ⟨hj, rfl⟩ := hx
  refine (publish_ev H hN hj).mono ?_
  rintro e w' (⟨er, S', phase', h0, rfl, hk⟩ | ⟨clock', S', rfl, h1, h2, h3, h4, h5⟩)
  · exact ⟨er, rfl, .inl ⟨h0, S', _, hk.1⟩⟩
  · exact ⟨0, rfl, .inr ⟨rfl, clock', S', _, ⟨by rw [List.length_set]; exact hj, by rw [qset_at, if_pos rfl]⟩, h1, h2, h3, h4, h5⟩⟩
theorem Ser.writes_x (H : Ser w0 w s bm mb lb v5 N clock S Q Mm Lm mv) (hx : IsAt Q j x) :
    Calls Try.prog 23 #[ptr x.t] w fun e w' => ∃ p c L, e = .returned (.slice p L.length c) ∧ SlotsAt w' (.slice p L.length c) L ∧ L.map SA.k = listW x.m x.wb ∧ Below w.heap.size w w' := by
  obtain ⟨hj, rfl⟩ := hx
  have hs := H.mem.sn j hj
  have hk := H.log.nmW j hj
  refine (writes_calls hs.tx.1.tx hs.tx.1.wr hs.rw_ (fun p hp => nmK_size (hk.1 p hp)) (by have := hs.tx.1.wr.few hk.1; omega)).mono ?_
  rintro e w' ⟨v, L, rfl, h1, h2, h3⟩
  obtain ⟨p, c, rfl, -⟩ := h1.in_
  exact ⟨p, c, L, rfl, h1, h2, h3⟩
theorem Ser.phase_x (H : Ser w0 w s bm mb lb v5 N clock S Q Mm Lm mv) (hx : IsAt Q j x) : Calls Try.prog 13 #[ptr x.t] w fun e w' => e = .returned (.int .i64 x.phase) ∧ w' = w := by
  obtain ⟨hj, rfl⟩ := hx
  exact phase_calls (H.mem.sn j hj).tx.1.tx
theorem Ser.slots_x (H : Ser w0 w s bm mb lb v5 N clock S Q Mm Lm mv) :
    Calls Try.prog 26 #[ptr s] w fun e w' => ∃ p c L, e = .returned (.slice p L.length c) ∧ SlotsAt w' (.slice p L.length c) L ∧ L.map SA.k = listS S ∧ Below w.heap.size w w' := by
  refine (slots_calls H.mem.st.sp (fun x hx => nmK_size (H.log.nmS _ (List.mem_map.2 ⟨x, hx, rfl⟩))) (by have := H.mem.st.sp.few H.log.nmS; omega)).mono ?_
  rintro e w' ⟨v, L, rfl, h1, h2, h3⟩
  obtain ⟨p, c, rfl, -⟩ := h1.in_
  exact ⟨p, c, L, rfl, h1, h2, h3⟩
/-- Whether a name is among what is to be written. -/
theorem any_has {L : List SA} {m : List (ByteArray × Value)} {wb : ByteArray → List Int} (h : L.map SA.k = listW m wb) (n : ByteArray) : (L.any fun y => decide (y.name = n)) = has m n := by
  rw [Bool.eq_iff_iff, List.any_eq_true, has_iff]
  have hm : ∀ k, k ∈ L.map SA.name ↔ k ∈ m.map (·.1) := fun k => by
    have e : L.map SA.name = (L.map SA.k).map (·.1) := by rw [List.map_map]; rfl
    rw [e, h]
    unfold listW
    rw [List.map_map]
    have e2 : (sortS (m.map (·.1))).map ((·.1) ∘ keyW wb) = sortS (m.map (·.1)) := (List.map_congr_left fun y _ => rfl).trans (List.map_id _)
    rw [e2]
    exact sortS_mem
  constructor
  · rintro ⟨y, hy, e⟩
    have := (hm n).1 (List.mem_map.2 ⟨y, hy, by simpa using e⟩)
    obtain ⟨p, hp, e⟩ := List.mem_map.1 this
    exact ⟨p, hp, e⟩
  · rintro ⟨p, hp, e⟩
    have := (hm n).2 (List.mem_map.2 ⟨p, hp, e⟩)
    obtain ⟨y, hy, e⟩ := List.mem_map.1 this
    exact ⟨y, hy, by simpa using e⟩
theorem own_x {kb : Nat} {op tx : Int} {nm : ByteArray} {v : Value} (hk : DoAt w kb op tx nm v) (hsz : nm.size ≤ 9223372036854775807) {p : Option Addr} {c : Nat} {L : List SA} (hs : SlotsAt w (.slice p L.length c) L) {m : List (ByteArray × Value)} {wb : ByteArray → List Int} (h : L.map SA.k = listW m wb) :
    Calls Try.prog 22 #[.slice p L.length c, .func (.func 24) #[] #[ptr kb]] w fun e w' => e = .returned (.bool (has m (nmOf nm))) ∧ Below w.heap.size w w' := by
  obtain ⟨p', c', e, hin⟩ := hs.in_
  simp only [Value.slice.injEq] at e
  obtain ⟨rfl, -, rfl⟩ := e
  have := contains24_calls (c := c) hk hsz hin
  rw [any_has h] at this
  exact this
theorem equal_self {v1 v2 : Value} {xs : List Int} (h1 : RowAt w v1 xs) (h2 : RowAt w v2 xs) : Calls Try.prog 19 #[v1, v2] w fun e w' => e = .returned (.bool true) ∧ Below w.heap.size w w' := by
  refine (equal_calls h1.reads h2.reads).mono ?_
  rintro e w' ⟨rfl, nd, rfl⟩
  exact ⟨by simp, pw_below_drewN (Below.refl _ _) _⟩
/-- What was seen, in memory. -/
def QAt (w : World) (x : Sn) : Prop := w.heap[x.q]? = some x.obj
theorem Ser.q (H : Ser w0 w s bm mb lb v5 N clock S Q Mm Lm mv) (hx : IsAt Q j x) : QAt w x := by
  obtain ⟨hj, rfl⟩ := hx
  exact (H.mem.sn j hj).sn
theorem QAt.fq (h : QAt w x) (hf : Fq w w') : QAt w' x := hf.keep _ _ _ _ h (by decide) (by decide) (by decide)
theorem DoAt.fq {kb : Nat} {op tx : Int} {nm : ByteArray} {v : Value} (h : DoAt w kb op tx nm v) (hf : Fq w w') : DoAt w' kb op tx nm v := ⟨h.1, hf.keep _ _ _ _ h.2 (by decide) (by decide) (by decide)⟩
theorem QAt.c0 (h : QAt w x) : w.cell? ⟨x.q, 0, none⟩ = some (.pointer (some ⟨x.t, 0, none⟩)) := (blk_cell h 0).trans rfl
theorem QAt.c1 (h : QAt w x) : w.cell? ⟨x.q, 1, none⟩ = some (.map (some x.rb)) := (blk_cell h 1).trans rfl
theorem QAt.c2 (h : QAt w x) : w.cell? ⟨x.q, 2, none⟩ = some (.map (some x.gb)) := (blk_cell h 2).trans rfl
def KC (w : World) (kb : Nat) (op tx : Int) (nm : ByteArray) (v : Value) : Prop := w.cell? ⟨kb, 0, none⟩ = some (.int .i64 op) ∧ w.cell? ⟨kb, 1, none⟩ = some (.int .i64 tx) ∧ w.cell? ⟨kb, 2, none⟩ = some (.string nm) ∧ w.cell? ⟨kb, 3, none⟩ = some v
theorem DoAt.kc {kb : Nat} {op tx : Int} {nm : ByteArray} {v : Value} (h : DoAt w kb op tx nm v) : w.cell? ⟨kb, 0, none⟩ = some (.int .i64 op) ∧ w.cell? ⟨kb, 1, none⟩ = some (.int .i64 tx) ∧ w.cell? ⟨kb, 2, none⟩ = some (.string nm) ∧ w.cell? ⟨kb, 3, none⟩ = some v := ⟨h.c0, h.c1, h.c2, h.c3⟩
theorem Fq.drew (w : World) : Fq w w.drew := ⟨Nat.le_refl _, fun _ _ _ _ h _ _ _ => h⟩
theorem below_drew (w : World) : Below w.heap.size w w.drew := ⟨rfl, rfl, rfl, Nat.le_refl _, fun _ _ => rfl⟩
/-- What a transaction had of a name when it began: a look-up, and what it reads as. -/
theorem Ser.began (H : Ser w0 w s bm mb lb v5 N clock S Q Mm Lm mv) (hx : IsAt Q j x) (n : ByteArray) : ∃ A k c, (∀ w', Fr [] w w' → (Instr.lookup 47 (.map (some x.gb)) (.string n) false).run Try.prog w' = .ok (.slice A k c) w') ∧ RowAt w (.slice A k c) (x.bf n) := by
  obtain ⟨hj, rfl⟩ := hx
  have hs := H.mem.sn j hj
  have hr := hs.rg.look n
  obtain ⟨A, k, c, hv⟩ := hr.form
  refine ⟨A, k, c, fun w' hf => ?_, by rw [← hv]; exact hr⟩
  have := map_lookup (P := Try.prog) Try.underlying47 Try.underlying9 (Try.zeroValue22 w') (hs.gm.fr hf (by simp)) n false
  rw [this, hv]; rfl
theorem RowAt.fq {v : Value} {xs : List Int} (h : RowAt w v xs) (hf : Fq w w') : RowAt w' v xs := by
  refine ⟨h.1, ?_⟩
  rcases h.2 with h | ⟨g, c, cur, rfl, hb, hc⟩
  · exact .inl h
  · exact .inr ⟨g, c, cur, rfl, hf.keep _ _ _ _ hb (by decide) (by decide) (by decide), hc⟩
theorem SlotsAt.fq {v : Value} {L : List SA} (h : SlotsAt w v L) (hf : Fq w w') : SlotsAt w' v L := by
  refine ⟨h.1, ⟨h.2.1.1, ?_⟩, fun x hx => (h.2.2 x hx).fq hf⟩
  rcases h.2.1.2 with h1 | ⟨g, cap, cur, h1, h2, h3, h4⟩
  · exact .inl h1
  · exact .inr ⟨g, cap, cur, h1, h2, hf.keep _ _ _ _ h3 (by decide) (by decide) (by decide), h4⟩
/-- A slot out of a list. -/
theorem SlotsAt.at_ {p : Option Addr} {c : Nat} {L : List SA} (h : SlotsAt w (.slice p L.length c) L) {i : Nat} (hi : i < L.length) : ∃ a, p = some a ∧ w.cell? (a.add (i * 3)) = some (.string L[i].name) ∧ w.cell? ⟨(a.add (i * 3)).block, (a.add (i * 3)).off + 1, none⟩ = some (.int .i64 L[i].ver) ∧ w.cell? ⟨(a.add (i * 3)).block, (a.add (i * 3)).off + 2, none⟩ = some L[i].v ∧ RowAt w L[i].v L[i].bs := by
  obtain ⟨p', c', e, hin⟩ := h.in_
  simp only [Value.slice.injEq] at e
  obtain ⟨rfl, -, rfl⟩ := e
  obtain ⟨a, h1, h2, h3, h4, -⟩ := hin.2 i hi
  exact ⟨a, h1, h2, h3, h4, h.2.2 _ (List.getElem_mem hi)⟩
/-- What the model has of a name: a look-up, and what it reads as. -/
theorem Mem.model (H : Mem w0 w s bm clock S Q v5 mb lb Mm Lm mv) (n : ByteArray) : ∃ A k c, (∀ w', Fr [] w w' → (Instr.lookup 47 (.map (some mb)) (.string n) false).run Try.prog w' = .ok (.slice A k c) w') ∧ RowAt w (.slice A k c) (if has Mm n = true then mv n else []) := by
  have hr := H.mr.look n
  obtain ⟨A, k, c, hv⟩ := hr.form
  refine ⟨A, k, c, fun w' hf => ?_, by rw [← hv]; exact hr⟩
  have := map_lookup (P := Try.prog) Try.underlying47 Try.underlying9 (Try.zeroValue22 w') (H.mm.fr hf (by simp)) n false
  rw [this, hv]; rfl
theorem Ser.lastAt (H : Ser w0 w s bm mb lb v5 N clock S Q Mm Lm mv) (n : ByteArray) : ∃ z, (∀ w', Fr [] w w' → (Instr.lookup 48 (.map (some lb)) (.string n) false).run Try.prog w' = .ok (.int .i64 z) w') ∧ z ≤ verS S n := by
  obtain ⟨z, h1, h2⟩ := H.log.lastLook n
  refine ⟨z, fun w' hf => ?_, h2⟩
  have := map_lookup (P := Try.prog) Try.underlying48 Try.underlying9 (Try.zeroValue3 w') (H.mem.lm.fr hf (by simp)) n false
  rw [this, h1]; rfl
theorem Ser.lastput (H : Ser w0 w s bm mb lb v5 N clock S Q Mm Lm mv) {n : ByteArray} {z : Int} (hz : z ≤ verS S n) :
    ∃ w2, (Instr.mapUpdate 48 (.map (some lb)) (.string n) (.int .i64 z)).run Try.prog w = .ok () w2 ∧ (∃ Lm', Ser w0 w2 s bm mb lb v5 N clock S Q Mm Lm' mv) ∧ Fq w w2 := by
  obtain ⟨w2, hu, hm2, hb⟩ := map_update (P := Try.prog) Try.underlying48 Try.underlying9 H.mem.lm n (.int .i64 z)
  obtain ⟨h1, h2⟩ := H.mem.lastMap hm2 hb
  exact ⟨w2, hu, ⟨_, h1, H.log.lastPut hz, H.mod⟩, h2⟩
theorem Mem.modelput (H : Mem w0 w s bm clock S Q v5 mb lb Mm Lm mv) {n : ByteArray} {v : Value} {xs : List Int} (hr : RowAt w v xs) :
    ∃ w2, (Instr.mapUpdate 47 (.map (some mb)) (.string n) v).run Try.prog w = .ok () w2 ∧ Mem w0 w2 s bm clock S Q v5 mb lb (put Mm n v) Lm (fun k => if k = n then xs else mv k) ∧ Fq w w2 := by
  obtain ⟨w2, hu, hm2, hb⟩ := map_update (P := Try.prog) Try.underlying47 Try.underlying9 H.mm n v
  have hf : Fr [mb] w w2 := Fr.but1 hb H.mm.norow
  obtain ⟨h1, h2⟩ := H.modelMap (mv' := fun k => if k = n then xs else mv k) hm2 hb (RowsOf.put (H.mr.fr hf) (by simpa using hr.fr hf) (fun k hk => if_neg hk))
  exact ⟨w2, hu, h1, h2⟩
/-- Where the law stands while it lays what was written into the model. -/
structure ModP (w0 w : World) (s bm mb lb : Nat) (v5 : Value) (clock : Int) (S : List Ent) (Q : List Sn) (Lm : List (ByteArray × Value)) (M0 : ByteArray → Bool) (mv0 wb : ByteArray → List Int) (D : List SA) : Prop where
  ex : ∃ Mm mv, Mem w0 w s bm clock S Q v5 mb lb Mm Lm mv ∧ (∀ n, has Mm n = (M0 n || D.any fun y => decide (y.name = n))) ∧ ∀ n, mv n = if (D.any fun y => decide (y.name = n)) = true then wb n else mv0 n
theorem ModP.step {M0 : ByteArray → Bool} {mv0 wb : ByteArray → List Int} {D : List SA} {y : SA} (H : ModP w0 w s bm mb lb v5 clock S Q Lm M0 mv0 wb D) (hr : RowAt w y.v (wb y.name)) :
    ∃ w2, (Instr.mapUpdate 47 (.map (some mb)) (.string y.name) y.v).run Try.prog w = .ok () w2 ∧ ModP w0 w2 s bm mb lb v5 clock S Q Lm M0 mv0 wb (D ++ [y]) ∧ Fq w w2 := by
  obtain ⟨Mm, mv, h1, h2, h3⟩ := H.ex
  obtain ⟨w2, hu, h4, h5⟩ := h1.modelput (n := y.name) hr
  refine ⟨w2, hu, ⟨_, _, h4, fun n => ?_, fun n => ?_⟩, h5⟩
  · rw [has_put, h2, List.any_append]
    simp only [List.any_cons, List.any_nil, Bool.or_false]
    rw [show decide (n = y.name) = decide (y.name = n) from decide_eq_decide.2 ⟨fun e => e.symm, fun e => e.symm⟩, Bool.or_comm, Bool.or_assoc]
  · rw [List.any_append]
    simp only [List.any_cons, List.any_nil, Bool.or_false, h3]
    by_cases e : n = y.name
    · subst e; simp
    · rw [if_neg e, decide_eq_false (fun e' => e e'.symm), Bool.or_false]
theorem ModP.new {M0 : ByteArray → Bool} {mv0 wb : ByteArray → List Int} {D : List SA} (H : ModP w0 w s bm mb lb v5 clock S Q Lm M0 mv0 wb D) (hb : Below w.heap.size w w') : ModP w0 w' s bm mb lb v5 clock S Q Lm M0 mv0 wb D := by
  obtain ⟨Mm, mv, h1, h2, h3⟩ := H.ex
  exact ⟨Mm, mv, h1.new hb, h2, h3⟩
theorem ModP.start (H : Mem w0 w s bm clock S Q v5 mb lb Mm Lm mv) (wb : ByteArray → List Int) : ModP w0 w s bm mb lb v5 clock S Q Lm (has Mm) mv wb [] :=
  ⟨Mm, mv, H, fun n => by simp, fun n => by simp⟩
theorem ModP.done {S0 : List Ent} {m : List (ByteArray × Value)} {wb : ByteArray → List Int} {D : List SA} (H : ModP w0 w s bm mb lb v5 clock S Q Lm (has Mm) mv wb D) (hmod : Mod S0 Mm mv) (hk : D.map SA.k = listW m wb) (hbs : ∀ n, bsS S n = if has m n = true then wb n else bsS S0 n) (hl : Log clock N S Q Lm) :
    ∃ Mm mv, Ser w0 w s bm mb lb v5 N clock S Q Mm Lm mv := by
  obtain ⟨Mm', mv', h1, h2, h3⟩ := H.ex
  refine ⟨Mm', mv', h1, hl, fun n hn => ?_, fun n hn => ?_⟩
  · rw [h3, hbs, any_has hk]
    split
    · rfl
    · rename_i e
      rw [h2, any_has hk] at hn
      have : has m n = false := by simpa using e
      rw [this, Bool.or_false] at hn
      exact hmod.m1 n hn
  · rw [h2, any_has hk, Bool.or_eq_false_iff] at hn
    rw [hbs, if_neg (by rw [hn.2]; simp)]
    exact hmod.m0 n hn.1
theorem listW_at {L : List SA} {m : List (ByteArray × Value)} {wb : ByteArray → List Int} (h : L.map SA.k = listW m wb) {i : Nat} (hi : i < L.length) : (L[i]).bs = wb (L[i]).name := by
  have : (L[i]).k ∈ listW m wb := by rw [← h]; exact List.mem_map.2 ⟨_, List.getElem_mem hi, rfl⟩
  unfold listW at this
  obtain ⟨n, -, e⟩ := List.mem_map.1 this
  unfold keyW SA.k at e
  simp only [Prod.mk.injEq] at e
  rw [← e.1, ← e.2.2]
theorem listS_at {L : List SA} {S : List Ent} (h : L.map SA.k = listS S) {i : Nat} (hi : i < L.length) : (L[i]).ver = verS S (L[i]).name ∧ (L[i]).bs = bsS S (L[i]).name := by
  have : (L[i]).k ∈ listS S := by rw [← h]; exact List.mem_map.2 ⟨_, List.getElem_mem hi, rfl⟩
  obtain ⟨n, -, -, e⟩ := listS_mem.1 this
  unfold keyS SA.k at e
  simp only [Prod.mk.injEq] at e
  unfold verS bsS
  rw [e.1]
  exact ⟨e.2.1, e.2.2⟩
/-- What was seen to be read, entry by entry. -/
theorem Mem.reads_open (H : Mem w0 w s bm clock S Q v5 mb lb Mm Lm mv) (hx : IsAt Q j x) : ∃ es c, w.heap[x.rb]? = some (.map es c) ∧ MapKept.Stamped es c ∧ ∀ e ∈ es.toList, ∃ n A k cc, e.key = .string n ∧ e.val = .slice A k cc ∧ RowAt w (.slice A k cc) (x.rv n) ∧ x.R n = some (x.rv n) := by
  obtain ⟨hj, rfl⟩ := hx
  have hs := H.sn j hj
  obtain ⟨es, c, hb, hst, hes, -⟩ := hs.rm.open_
  refine ⟨es, c, hb, hst, fun e he => ?_⟩
  obtain ⟨p, hp, h1, h2⟩ := hes e he
  have hr := hs.rr p hp
  obtain ⟨A, k, cc, hv⟩ := hr.form
  refine ⟨p.1, A, k, cc, h1, by rw [h2, hv], by rw [← hv]; exact hr, ?_⟩
  unfold Sn.R
  rw [if_pos (has_iff.2 ⟨p, hp, rfl⟩)]
/-- What was read is laid into the map of what was read. -/
theorem Ser.readput (H : Ser w0 w s bm mb lb v5 N clock S Q Mm Lm mv) (hx : IsAt Q j x) {n : ByteArray} {v : Value} (hv : verS S n ≤ x.time) (hm : has x.mr n = true) (hrow : RowAt w v (bsS S n)) :
    ∃ w2, (Instr.mapUpdate 47 (.map (some x.rb)) (.string n) v).run Try.prog w = .ok () w2 ∧ (∃ Q', Ser w0 w2 s bm mb lb v5 N clock S Q' Mm Lm mv) ∧ Fq w w2 := by
  obtain ⟨hj, rfl⟩ := hx
  have hs := H.mem.sn j hj
  obtain ⟨w2, hu, hm2, hb⟩ := map_update (P := Try.prog) Try.underlying47 Try.underlying9 hs.rm n v
  have hf : Fr [Q[j].rb] w w2 := Fr.but1 hb hs.rm.norow
  obtain ⟨h1, h2⟩ := H.mem.readMap (rv' := fun k => if k = n then bsS S n else Q[j].rv k) hj hm2 hb (RowsOf.put (hs.rr.fr hf) (by simpa using hrow.fr hf) (fun k hk => if_neg hk))
  exact ⟨w2, hu, ⟨_, h1, H.log.read hj hv hm v (fun k => rfl), H.mod⟩, h2⟩
end
end Go.Proofs.Ytkjliijcnllohaa.S
