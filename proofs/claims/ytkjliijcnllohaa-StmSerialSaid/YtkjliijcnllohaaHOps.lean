/- stm: each call in terms of a space and a transaction as wholes. -/
import Derived.Test.YtkjliijcnllohaaHNew2
namespace Go.Proofs.Ytkjliijcnllohaa.S
open Go.RowKit Go.Proofs.YtkjliijcnllohaaW.PrintWords Go.Proofs.YtkjliijcnllohaaW.PrintLast Go.Proofs.YtkjliijcnllohaaW.PrintMore
set_option linter.unusedVariables false
set_option linter.unusedSimpArgs false

/-- A transaction in memory, with its two maps. -/
structure TxIs (w : World) (s bm t br bw : Nat) (time phase : Int) (mr m : List (ByteArray × Value)) : Prop where
  tx : TxAt w t s time phase br bw
  rd : MapIs w br mr
  wr : MapIs w bw m
  ne : br ≠ bm ∧ bw ≠ bm ∧ br ≠ bw
/-- What a call of a transaction may touch. -/
def Tch (s bm t br bw : Nat) (S : List Ent) : List Nat := s :: bm :: br :: bw :: t :: gs S
theorem tch_mono {T : List Nat} {s bm t br bw : Nat} {S : List Ent} {w w' : World} (h : Fr T w w') (hT : ∀ k ∈ T, k = s ∨ k = bm ∨ k = br ∨ k = bw ∨ k = t ∨ k ∈ gs S) : Fr (Tch s bm t br bw S) w w' :=
  h.mono (fun k _ hk => by
    have := hT k hk
    simp only [Tch, List.mem_cons]
    exact this)
/-- Two transactions have nothing in common. -/
def Apart (t br bw t' br' bw' : Nat) : Prop := t ≠ t' ∧ br ≠ br' ∧ br ≠ bw' ∧ bw ≠ br' ∧ bw ≠ bw'
section
variable {w w' : World} {s bm t br bw : Nat} {clock time phase : Int} {S : List Ent} {mr m : List (ByteArray × Value)}
theorem TxIs.lt (h : TxIs w s bm t br bw time phase mr m) : t < w.heap.size ∧ br < w.heap.size ∧ bw < w.heap.size := ⟨h.tx.lt, h.rd.lt, h.wr.lt⟩
theorem TxIs.keep {t' br' bw' : Nat} {time' phase' : Int} {mr' m' : List (ByteArray × Value)} (hS : SpAt w s bm clock S) (hx : TxIs w s bm t br bw time phase mr m) (h : TxIs w s bm t' br' bw' time' phase' mr' m') (ha : Apart t br bw t' br' bw') (hf : Fr (Tch s bm t br bw S) w w') : TxIs w' s bm t' br' bw' time' phase' mr' m' := by
  obtain ⟨a1, a2, a3, a4, a5⟩ := ha
  have hk : ∀ b mm, MapIs w b mm → b ≠ bm → b ≠ br → b ≠ bw → b ∉ Tch s bm t br bw S := fun b mm hm n1 n2 n3 => by
    simp only [Tch, List.mem_cons, not_or]
    exact ⟨fun e => sp_ne_map hS hm e.symm, n1, n2, n3, fun e => hx.tx.ne_map hm e.symm, fun hm' => by
      obtain ⟨x, hx', e⟩ := List.mem_map.1 hm'
      exact g_ne_map hS hx' hm e⟩
  refine ⟨hf.get h.tx ?_, h.rd.fr hf (hk _ _ h.rd h.ne.1 (fun e => a2 e.symm) (fun e => a4 e.symm)), h.wr.fr hf (hk _ _ h.wr h.ne.2.1 (fun e => a3 e.symm) (fun e => a5 e.symm)), h.ne⟩
  simp only [Tch, List.mem_cons, not_or]
  exact ⟨fun e => blk_ne h.tx hS.sp (by decide) e, h.tx.ne_map hS.mp, h.tx.ne_map hx.rd, h.tx.ne_map hx.wr, fun e => a1 e.symm, fun hm' => by
    obtain ⟨x, hx', e⟩ := List.mem_map.1 hm'
    exact blk_ne (hS.slot x hx') h.tx (by decide) e⟩
theorem TxIs.fr (h : TxIs w s bm t br bw time phase mr m) (hf : Fr [] w w') : TxIs w' s bm t br bw time phase mr m := ⟨h.tx.fr hf (by simp), h.rd.fr hf (by simp), h.wr.fr hf (by simp), h.ne⟩
theorem SpAt.fr0 (h : SpAt w s bm clock S) (hf : Fr [] w w') : SpAt w' s bm clock S := h.fr hf (by simp) (by simp) (fun _ _ => by simp)
/-- A transaction's maps and what a step leaves of them. -/
theorem TxIs.maps (hS : SpAt w s bm clock S) (h : TxIs w s bm t br bw time phase mr m) {phase' : Int} (hf : Fr (s :: bm :: t :: gs S) w w') (ht : TxAt w' t s time phase' br bw) : TxIs w' s bm t br bw time phase' mr m := by
  have hk : ∀ b mm, MapIs w b mm → b ≠ bm → b ∉ (s :: bm :: t :: gs S) := fun b mm hm n1 => by
    simp only [List.mem_cons, not_or]
    exact ⟨fun e => sp_ne_map hS hm e.symm, n1, fun e => h.tx.ne_map hm e.symm, fun hm' => by
      obtain ⟨x, hx', e⟩ := List.mem_map.1 hm'
      exact g_ne_map hS hx' hm e⟩
  exact ⟨ht, h.rd.fr hf (hk _ _ h.rd h.ne.1), h.wr.fr hf (hk _ _ h.wr h.ne.2.1), h.ne⟩

theorem begin_is (h : SpAt w s bm clock S) : Calls Try.prog 9 #[ptr s] w fun e w' => ∃ t br bw, e = .returned (.tuple #[ptr t, .int .i64 0]) ∧ TxIs w' s bm t br bw clock 0 [] [] ∧ (w.heap.size ≤ t ∧ w.heap.size ≤ br ∧ w.heap.size ≤ bw) ∧ SpAt w' s bm clock S ∧ Fr [] w w' := by
  refine (begin_calls h).mono ?_
  rintro e w' ⟨t, br, bw, rfl, h1, h2, h3, h4, h5⟩
  have := h.mp.lt
  exact ⟨t, br, bw, rfl, ⟨h1, h2, h3, by omega, by omega, h4.2.2.2⟩, ⟨h4.1, h4.2.1, h4.2.2.1⟩, h.fr0 h5, h5⟩
theorem put_is (h : SpAt w s bm clock S) (hx : TxIs w s bm t br bw time 0 mr m) (name : ByteArray) (hfit : fitB name = true) {v : Value} {xs : List Int} (hv : Reads w v xs) :
    Calls Try.prog 10 #[ptr t, .string name, v] w fun e w' => e = .returned (.int .i64 0) ∧ ∃ v', RowAt w' v' xs ∧ SpAt w' s bm clock S ∧ TxIs w' s bm t br bw time 0 mr (put m name v') ∧ Fr (Tch s bm t br bw S) w w' := by
  refine (put_calls hx.tx hx.wr name hfit hv).mono ?_
  rintro e w' ⟨rfl, v', h1, h2, h3⟩
  refine ⟨rfl, v', h1, h.fr h3 (by simp only [List.mem_singleton]; exact fun e => sp_ne_map h hx.wr e) (by simp only [List.mem_singleton]; exact fun e => hx.ne.2.1 e.symm) (fun y hy => by simp only [List.mem_singleton]; exact fun e => g_ne_map h hy hx.wr e), ⟨hx.tx.fr h3 (by simp only [List.mem_singleton]; exact hx.tx.ne_map hx.wr), hx.rd.fr h3 (by simp only [List.mem_singleton]; exact hx.ne.2.2), h2, hx.ne⟩, tch_mono h3 (fun k hk => by simp at hk; simp [hk])⟩
theorem mem_tch {k : Nat} (h : k ∈ bm :: t :: gs S) : k = s ∨ k = bm ∨ k = br ∨ k = bw ∨ k = t ∨ k ∈ gs S := by
  simp only [List.mem_cons] at h
  rcases h with h | h | h
  · exact .inr (.inl h)
  · exact .inr (.inr (.inr (.inr (.inl h))))
  · exact .inr (.inr (.inr (.inr (.inr h))))
theorem lock_is (h : SpAt w s bm clock S) (hx : TxIs w s bm t br bw time 0 mr m) :
    Calls Try.prog 11 #[ptr t] w fun e w' => ∃ S', Fr (Tch s bm t br bw S) w w' ∧ SpAt w' s bm clock S' ∧ Later (fun n => has m n = true) w S S' ∧
      (((∀ n, has m n = true → (sv S n).lock = none) ∧ e = .returned (.int .i64 0) ∧ TxIs w' s bm t br bw time 1 mr m ∧ ∀ n, sv S' n = if has m n = true then { sv S n with lock := some t } else sv S n) ∨
       ((∃ n, has m n = true ∧ (sv S n).lock ≠ none) ∧ e = .returned (.int .i64 180) ∧ TxIs w' s bm t br bw time 4 mr m ∧ ∀ n, sv S' n = (sv S n).unlock t)) := by
  refine (lock_calls h hx.tx hx.wr hx.ne.2.1).mono ?_
  rintro e w' ⟨S', hL, hf, ⟨h1, h2, h3, h4, h5⟩ | ⟨h1, h2, h3, h4, h5⟩⟩
  · exact ⟨S', tch_mono hf (fun k hk => mem_tch hk), h3, hL, .inl ⟨h1, h2, hx.maps h (hf.mono (fun k _ hk => List.mem_cons_of_mem _ hk)) h4, h5⟩⟩
  · exact ⟨S', tch_mono hf (fun k hk => mem_tch hk), h3, hL, .inr ⟨h1, h2, hx.maps h (hf.mono (fun k _ hk => List.mem_cons_of_mem _ hk)) h4, h5⟩⟩
theorem get_is (h : SpAt w s bm clock S) (hx : TxIs w s bm t br bw time 0 mr m) (name : ByteArray) (hfit : fitB name = true) (hg : get? m name = none) :
    Calls Try.prog 12 #[ptr t, .string name] w fun e w' => ∃ S', Fr (Tch s bm t br bw S) w w' ∧ SpAt w' s bm clock S' ∧ Later (fun n => n = name) w S S' ∧
      ((((sv S name).lock = none ∧ (sv S name).ver ≤ time) ∧ ∃ v', e = .returned (.tuple #[v', .int .i64 0]) ∧ RowAt w' v' (sv S name).bs ∧ TxIs w' s bm t br bw time 0 (put mr name (.bool true)) m ∧ ∀ n, sv S' n = sv S n) ∨
       (¬ ((sv S name).lock = none ∧ (sv S name).ver ≤ time) ∧ e = .returned (.tuple #[.slice none 0 0, .int .i64 180]) ∧ TxIs w' s bm t br bw time 4 mr m ∧ ∀ n, sv S' n = (sv S n).unlock t)) := by
  refine (get_other h hx.tx hx.wr hx.rd hx.ne.1 name hfit hg).mono ?_
  rintro e w' ⟨x, hxm, hxn, hcase⟩
  by_cases hc : x.lock = none ∧ x.ver ≤ time
  · rw [if_pos hc] at hcase
    obtain ⟨v', rfl, h1, h2, h3, h4, h5⟩ := hcase
    have hxs : x.sv = sv S name := by rw [← sv_ensure S name w.heap.size name, ← sv_mem h2.names hxm, hxn]
    have hT : ∀ b mm, MapIs w b mm → b ≠ bm → b ≠ br → b ∉ [bm, br] := fun b mm _ h1 h2 => by simp [h1, h2]
    refine ⟨_, tch_mono h5 (fun k hk => by simp at hk; rcases hk with hk | hk <;> simp [hk]), h2, later_ensure w S name rfl, .inl ⟨by rw [← hxs]; exact hc, v', rfl, by rw [← hxs]; exact h1, ⟨h3, h4, hx.wr.fr h5 (hT _ _ hx.wr hx.ne.2.1 (fun e => hx.ne.2.2 e.symm)), hx.ne⟩, sv_ensure S name _⟩⟩
  · rw [if_neg hc] at hcase
    obtain ⟨rfl, h2, h3, h5⟩ := hcase
    have hxs : x.sv = sv S name := by
      have hn : (ensure S name w.heap.size).Pairwise fun x y => x.name ≠ y.name := by
        have := h2.names
        rw [List.pairwise_map] at this
        exact this.imp (fun hh => by rw [Ent.unlock_name, Ent.unlock_name] at hh; exact hh)
      rw [← sv_ensure S name w.heap.size name, ← sv_mem hn hxm, hxn]
    refine ⟨_, tch_mono h5 (fun k hk => mem_tch hk), h2, (later_ensure (X := fun n => n = name) w S name rfl).map (Ent.unlock_g t) (Ent.unlock_name t), .inr ⟨by rw [← hxs]; exact hc, rfl, hx.maps h (h5.mono (fun k _ hk => List.mem_cons_of_mem _ hk)) h3, fun n => by rw [sv_unlock, sv_ensure]⟩⟩
theorem check_is (hp : phase = 1 ∨ phase = 2) (h : SpAt w s bm clock S) (hx : TxIs w s bm t br bw time phase mr m) :
    Calls Try.prog 15 #[ptr t] w fun e w' => ∃ S', Fr (Tch s bm t br bw S) w w' ∧ SpAt w' s bm clock S' ∧ Later (fun n => has mr n = true) w S S' ∧
      (((∀ n, has mr n = true → Good t time (sv S n)) ∧ e = .returned (.int .i64 0) ∧ TxIs w' s bm t br bw time 2 mr m ∧ ∀ n, sv S' n = sv S n) ∨
       ((∃ n, has mr n = true ∧ ¬ Good t time (sv S n)) ∧ e = .returned (.int .i64 180) ∧ TxIs w' s bm t br bw time 4 mr m ∧ ∀ n, sv S' n = (sv S n).unlock t)) := by
  refine (check_calls hp h hx.tx hx.rd hx.ne.1).mono ?_
  rintro e w' ⟨S', hL, hf, ⟨h1, h2, h3, h4, h5⟩ | ⟨h1, h2, h3, h4, h5⟩⟩
  · exact ⟨S', tch_mono hf (fun k hk => mem_tch hk), h3, hL, .inl ⟨h1, h2, hx.maps h (hf.mono (fun k _ hk => List.mem_cons_of_mem _ hk)) h4, h5⟩⟩
  · exact ⟨S', tch_mono hf (fun k hk => mem_tch hk), h3, hL, .inr ⟨h1, h2, hx.maps h (hf.mono (fun k _ hk => List.mem_cons_of_mem _ hk)) h4, h5⟩⟩
theorem publish_is {wb : ByteArray → List Int} (h : SpAt w s bm clock S) (hx : TxIs w s bm t br bw time 2 mr m) (hwb : ∀ p ∈ m, RowAt w p.2 (wb p.1)) (hc0 : 0 ≤ clock) (hc1 : clock < 4611686018427387904) :
    Calls Try.prog 16 #[ptr t] w fun e w' => ∃ S', Fr (Tch s bm t br bw S) w w' ∧ Later (fun n => has m n = true ∨ has mr n = true) w S S' ∧
      (((∀ n, has mr n = true → Good t time (sv S n)) ∧ e = .returned (.int .i64 0) ∧ SpAt w' s bm (if m = [] then clock else clock + 1) S' ∧ TxIs w' s bm t br bw time 3 mr m ∧ ∀ n, sv S' n = (if has m n = true then ⟨clock + 1, wb n, true, (sv S n).lock⟩ else sv S n).unlock t) ∨
       ((∃ n, has mr n = true ∧ ¬ Good t time (sv S n)) ∧ e = .returned (.int .i64 180) ∧ SpAt w' s bm clock S' ∧ TxIs w' s bm t br bw time 4 mr m ∧ ∀ n, sv S' n = (sv S n).unlock t)) := by
  refine (publish_calls h hx.tx hx.rd hx.wr hx.ne.1 hx.ne.2.1 hwb hc0 hc1).mono ?_
  have hm : ∀ k ∈ s :: bm :: t :: gs S, k = s ∨ k = bm ∨ k = br ∨ k = bw ∨ k = t ∨ k ∈ gs S := fun k hk => by
    rcases List.mem_cons.1 hk with hk | hk
    · exact .inl hk
    · exact mem_tch hk
  rintro e w' ⟨S', hL, hf, ⟨h1, h2, h3, h4, h5⟩ | ⟨h1, h2, h3, h4, h5⟩⟩
  · exact ⟨S', tch_mono hf hm, hL, .inl ⟨h1, h2, h3, hx.maps h hf h4, h5⟩⟩
  · exact ⟨S', tch_mono hf hm, hL, .inr ⟨h1, h2, h3, hx.maps h hf h4, h5⟩⟩
theorem abort_is (h : SpAt w s bm clock S) (hx : TxIs w s bm t br bw time phase mr m) (hp : phase < 3) :
    Calls Try.prog 14 #[ptr t] w fun e w' => e = .returned (.int .i64 0) ∧ ∃ S', Fr (Tch s bm t br bw S) w w' ∧ SpAt w' s bm clock S' ∧ Later (fun _ => False) w S S' ∧ TxIs w' s bm t br bw time 4 mr m ∧ ∀ n, sv S' n = (sv S n).unlock t := by
  refine (abort_yes h hx.tx hp).mono ?_
  rintro e w' ⟨rfl, h1, h2, h3⟩
  have h4 : Fr (bm :: t :: gs S) w w' := h3.mono (fun k _ hk => List.mem_cons_of_mem _ hk)
  exact ⟨rfl, _, tch_mono h4 (fun k hk => mem_tch hk), h1, (later_refl _ w S).map (Ent.unlock_g t) (Ent.unlock_name t), hx.maps h (h4.mono (fun k _ hk => List.mem_cons_of_mem _ hk)) h2, fun n => sv_unlock S t n⟩
end
end Go.Proofs.Ytkjliijcnllohaa.S
