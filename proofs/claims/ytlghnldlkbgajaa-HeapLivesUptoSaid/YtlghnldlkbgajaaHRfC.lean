/- heap: the document's heap: room. heap: the document's heap: New. heap: the document's heap: put. heap: the document's heap: Text. -/
import Derived.Test.YtlghnldlkbgajaaHRf12
namespace Go.Proofs.Ytlghnldlkbgajaa.S
open Go.RowKit Go.Proofs.YtlghnldlkbgajaaW.PrintWords Go.Proofs.YtlghnldlkbgajaaW.PrintLast Go.Proofs.YtlghnldlkbgajaaW.PrintMore
set_option linter.unusedVariables false
set_option linter.unusedSimpArgs false
def RRoom (n : Int) (L : List OW) (h : RS) (e : Int) (L' : List OW) (h' : RS) : Prop :=
  ((h.spent = true ∨ h.young < n) ∧ e = 140 ∧ L' = L ∧ h' = h) ∨
  ((h.spent = false ∧ n ≤ h.young) ∧ ((sumB L false + n ≤ h.young ∧ e = 0 ∧ L' = L ∧ h' = h) ∨ (¬ sumB L false + n ≤ h.young ∧ RCol false L h e L' h')))
section
variable {w : World} {g rc : Nat} {V : Value} {R : Option Addr} {L : List OW} {h : RS}
set_option maxRecDepth 100000 in
set_option maxHeartbeats 2000000 in
theorem rroom_calls (H : HR w g V R rc L h) (hs : SmT L h) {n : Int} (hn : 0 ≤ n ∧ n ≤ 100000) :
    Calls Try.prog 69 #[ptr g, .int .i64 n] w fun e w' => ∃ err L' h' V', e = .returned (.int .i64 err) ∧ RRoom n L h err L' h' ∧ HR w' g V' R rc L' h' ∧ StepR g V R L V' R L' w w' := by
  have c7 := H.q.c7
  obtain ⟨yo, hyo⟩ : ∃ x, x = h.young := ⟨_, rfl⟩
  have c0 : w.cell? ⟨g, 0, none⟩ = some (.int .i64 yo) := by rw [hyo]; exact H.q.c0
  have c0d : w.drew.cell? ⟨g, 0, none⟩ = some (.int .i64 yo) := c0
  have hd := H.fr0 (Fr.drew [] w)
  have HSM := Aside0.mk (rsum_calls hd (by have := hs.sm.len; omega) hs.sm.fine false)
  have HCO := Aside0.mk (rcollect_calls hd hs false)
  have hsb := sumB_bound hs.sm.fine false
  have hlen := hs.sm.len
  have HWR := Aside0.mk (show wrap64 (sumB L false + n) = sumB L false + n by unfold wrap64; omega)
  have HH := Aside0.mk H
  have HD := Aside0.mk hd
  have HYO := Aside0.mk hyo
  unfold ptr
  unfold ptr at HSM HCO
  clear H hs hd hsb hlen hyo
  cases hsp : h.spent with
  | true =>
    rw [hsp] at c7
    have HRES := Aside0.mk (show RRoom n L h 140 L h from .inl ⟨.inl hsp, rfl, rfl, rfl⟩)
    clear hsp
    go_enter Try.func69, Try.ntmps69
    go_wp2_with fail
    go_returns
    exact ⟨140, L, h, V, rfl, HRES.out, HH.out, StepR.refl _ _ _ _ _⟩
  | false =>
    rw [hsp] at c7
    by_cases h1 : yo < n
    · have hb : decide (yo < n) = true := decide_eq_true h1
      have HRES := Aside0.mk (show RRoom n L h 140 L h from .inl ⟨.inr (by rw [← HYO.out]; exact h1), rfl, rfl, rfl⟩)
      clear hsp
      go_enter Try.func69, Try.ntmps69
      go_wp2_with fail
      go_returns
      exact ⟨140, L, h, V, rfl, HRES.out, HH.out, StepR.refl _ _ _ _ _⟩
    · have hb : decide (yo < n) = false := decide_eq_false h1
      have HSP := Aside0.mk (show h.spent = false ∧ n ≤ h.young from ⟨hsp, by rw [← HYO.out]; omega⟩)
      clear hsp
      go_enter Try.func69, Try.ntmps69
      go_wp2_with fail
      refine start_ (n := 9) (S := (fun w' => w'.cell? ⟨g, 0, none⟩ = some (.int .i64 yo))) (ds := []) #[false, false, false, false, false, false, false, false, false] (by kernel_rfl) rfl rfl c0d (fun hHeld => ?_)
      refine take_ (i := 0) (N := some 17) (v := ?_) (a' := ?_) #[true, false, false, false, false, false, false, false, false] rfl rfl (by kernel_rfl) (fun _ _ _ h => h) (Or.inl ⟨by rfl, ?_⟩) hHeld ?_ ?_
      rotate_left
      · rintro w' s0
        go_simp
        with_reducible rfl
      rotate_left
      · simp only [Act.put, List.setIfInBounds_toArray, List.set_cons_zero, List.set_cons_succ, i64_w, i32_w]
        rfl
      refine take_ (i := 2) (N := some 19) (v := ?_) (a' := ?_) #[true, false, true, false, false, false, false, false, false] rfl rfl (by kernel_rfl) (fun _ _ _ h => h) (Or.inl ⟨by rfl, ?_⟩) hHeld ?_ ?_
      rotate_left
      · rintro w' s0
        go_simp
        with_reducible rfl
      rotate_left
      · simp only [Act.put, List.setIfInBounds_toArray, List.set_cons_zero, List.set_cons_succ, i64_w, i32_w]
        rfl
      refine take_ (i := 4) (N := some 21) (v := ?_) (a' := ?_) #[true, false, true, false, true, false, false, false, false] rfl rfl (by kernel_rfl) (fun _ _ _ h => h) (Or.inl ⟨by rfl, ?_⟩) hHeld ?_ ?_
      rotate_left
      · rintro w' s0
        go_simp
        with_reducible rfl
      rotate_left
      · simp only [Act.put, List.setIfInBounds_toArray, List.set_cons_zero, List.set_cons_succ, i64_w, i32_w]
        rfl
      refine take_ (i := 5) (N := some 22) (v := ?_) (a' := ?_) #[true, false, true, false, true, true, false, false, false] rfl rfl (by kernel_rfl) (fun _ _ _ h => h) (Or.inl ⟨by rfl, ?_⟩) hHeld ?_ ?_
      rotate_left
      · rintro w' s0
        go_simp
        with_reducible rfl
      rotate_left
      · simp only [Act.put, List.setIfInBounds_toArray, List.set_cons_zero, List.set_cons_succ, i64_w, i32_w]
        rfl
      refine take_ (i := 6) (N := some 23) (v := ?_) (a' := ?_) #[true, false, true, false, true, true, true, false, false] rfl rfl (by kernel_rfl) (fun _ _ _ h => h) (Or.inl ⟨by rfl, ?_⟩) hHeld ?_ ?_
      rotate_left
      · rintro w' s0
        go_simp
        with_reducible rfl
      rotate_left
      · simp only [Act.put, List.setIfInBounds_toArray, List.set_cons_zero, List.set_cons_succ, i64_w, i32_w]
        rfl
      refine take_ (i := 7) (N := some 24) (v := ?_) (a' := ?_) #[true, false, true, false, true, true, true, true, false] rfl rfl (by kernel_rfl) (fun _ _ _ h => h) (Or.inl ⟨by rfl, ?_⟩) hHeld ?_ ?_
      rotate_left
      · rintro w' s0
        go_simp
        with_reducible rfl
      rotate_left
      · simp only [Act.put, List.setIfInBounds_toArray, List.set_cons_zero, List.set_cons_succ, i64_w, i32_w]
        rfl
      refine one_ (i := 1) (N := some 18) #[true, true, true, false, true, true, true, true, false] rfl rfl (by kernel_rfl) (by decide) (fun K hK => ?_)
      refine goes_ Try.func38 (by kernel_rfl) rfl #[.pointer (some ⟨g, 0, none⟩), .bool false] (by rfl) rfl rfl (by simp only [List.map_toArray, List.map_cons, List.map_nil]; rfl) ?_
      refine HSM.out.mono ?_
      rintro e w9 ⟨rfl, rfl⟩
      refine ⟨_, rfl, ?_⟩
      refine hK.out _ _ hHeld (fun hHeld => ?_)
      clear hK K
      refine norm_ (a' := ?_) ?_ ?_
      rotate_left
      · show Act.put _ (some 18) _ = _
        simp only [Act.put, List.setIfInBounds_toArray, List.set_cons_zero, List.set_cons_succ, i64_w, i32_w]
        rfl
      refine take_ (i := 3) (N := some 20) (v := ?_) (a' := ?_) #[true, true, true, true, true, true, true, true, false] rfl rfl (by kernel_rfl) (fun _ _ _ h => h) (Or.inl ⟨by rfl, ?_⟩) hHeld ?_ ?_
      rotate_left
      · rintro w' s0
        go_simp
        with_reducible rfl
      rotate_left
      · simp only [Act.put, List.setIfInBounds_toArray, List.set_cons_zero, List.set_cons_succ, i64_w, i32_w]
        rfl
      refine take_ (i := 8) (N := some 25) (v := ?_) (a' := ?_) #[true, true, true, true, true, true, true, true, true] rfl rfl (by kernel_rfl) (fun _ _ _ h => h) (Or.inl ⟨by rfl, ?_⟩) hHeld ?_ ?_
      rotate_left
      · rintro w' s0
        go_simp
        with_reducible rfl
      rotate_left
      · simp only [Act.put, List.setIfInBounds_toArray, List.set_cons_zero, List.set_cons_succ, i64_w, i32_w]
        rfl
      refine done_ (by kernel_rfl) ?_
      rw [HWR.out]
      by_cases h2 : sumB L false + n ≤ yo
      · have hb2 : decide (sumB L false + n ≤ yo) = true := decide_eq_true h2
        have HRES := Aside0.mk (show RRoom n L h 0 L h from .inr ⟨HSP.out, .inl ⟨by rw [← HYO.out]; exact h2, rfl, rfl, rfl⟩⟩)
        go_wp2_with fail
        go_returns
        exact ⟨0, L, h, V, rfl, HRES.out, HD.out, (StepR.refl _ _ _ _ _).drew⟩
      · have hb2 : decide (sumB L false + n ≤ yo) = false := decide_eq_false h2
        have HN2 := Aside0.mk (show ¬ sumB L false + n ≤ h.young by rw [← HYO.out]; exact h2)
        go_wp2_with fail
        refine HCO.out.mono ?_
        rintro e w3 ⟨err, L', h', V', rfl, hrc, hr3, st3⟩
        have HRES := Aside0.mk (show RRoom n L h err L' h' from .inr ⟨HSP.out, .inr ⟨by have := HN2.out; omega, hrc⟩⟩)
        have HR3 := Aside0.mk (And.intro hr3 ((StepR.refl g V R L w).drew.trans st3))
        clear hrc hr3 st3
        go_wp2_with fail
        go_returns
        exact ⟨err, L', h', V', rfl, HRES.out, HR3.out.1, HR3.out.2⟩
end
end Go.Proofs.Ytlghnldlkbgajaa.S
namespace Go.Proofs.Ytlghnldlkbgajaa.S
open Go.RowKit Go.Proofs.YtlghnldlkbgajaaW.PrintWords Go.Proofs.YtlghnldlkbgajaaW.PrintLast Go.Proofs.YtlghnldlkbgajaaW.PrintMore
set_option linter.unusedVariables false
set_option linter.unusedSimpArgs false
set_option maxRecDepth 100000 in
theorem rnew_any (y o : Int) (hy : 16 ≤ y ∧ y ≤ 1048576) (ho : 16 ≤ o ∧ o ≤ 1048576) (w : World) : Calls Try.prog 24 #[.int .i64 y, .int .i64 o] w fun e w' => ∃ g, e = .returned (.tuple #[ptr g, .int .i64 0]) ∧ HR w' g (.slice none 0 0) none 0 [] ⟨y, o, [], 2, 0, 0, false⟩ ∧ w.heap.size ≤ g ∧ Below w.heap.size w w' := by
  have a1 : decide (y < 16) = false := decide_eq_false (by omega)
  have a2 : decide (1048576 < y) = false := decide_eq_false (by omega)
  have a3 : decide (o < 16) = false := decide_eq_false (by omega)
  have a4 : decide (1048576 < o) = false := decide_eq_false (by omega)
  clear hy ho
  go_enter Try.func24, Try.ntmps24
  go_wp2_with fail
  go_returns
  refine ⟨w.heap.size, rfl, ⟨⟨heap_alloc_new w _, World.ownsRow_nil _ _ _ _, by simp, by simp, List.Pairwise.nil, by simp⟩, World.ownsRow_nil _ _ _ _, List.Pairwise.nil, by simp⟩, Nat.le_refl _, (Below.refl _ _).alloc (Nat.le_refl _) _⟩
set_option maxRecDepth 100000 in
theorem rnew_no (y o : Int) (h : ¬ ((16 ≤ y ∧ y ≤ 1048576) ∧ (16 ≤ o ∧ o ≤ 1048576))) (w : World) : Calls Try.prog 24 #[.int .i64 y, .int .i64 o] w fun e w' => e = .returned (.tuple #[.pointer none, .int .i64 1]) ∧ w' = w := by
  by_cases h1 : y < 16
  · have a1 : decide (y < 16) = true := decide_eq_true h1
    clear h
    go_enter Try.func24, Try.ntmps24
    go_wp2_with fail
    go_returns
    exact ⟨rfl, rfl⟩
  · have a1 : decide (y < 16) = false := decide_eq_false h1
    by_cases h2 : 1048576 < y
    · have a2 : decide (1048576 < y) = true := decide_eq_true h2
      clear h
      go_enter Try.func24, Try.ntmps24
      go_wp2_with fail
      go_returns
      exact ⟨rfl, rfl⟩
    · have a2 : decide (1048576 < y) = false := decide_eq_false h2
      by_cases h3 : o < 16
      · have a3 : decide (o < 16) = true := decide_eq_true h3
        clear h
        go_enter Try.func24, Try.ntmps24
        go_wp2_with fail
        go_returns
        exact ⟨rfl, rfl⟩
      · have a3 : decide (o < 16) = false := decide_eq_false h3
        have a4 : decide (1048576 < o) = true := decide_eq_true (by omega)
        clear h
        go_enter Try.func24, Try.ntmps24
        go_wp2_with fail
        go_returns
        exact ⟨rfl, rfl⟩
end Go.Proofs.Ytlghnldlkbgajaa.S
namespace Go.Proofs.Ytlghnldlkbgajaa.S
open Go.RowKit Go.Proofs.YtlghnldlkbgajaaW.PrintWords Go.Proofs.YtlghnldlkbgajaaW.PrintLast Go.Proofs.YtlghnldlkbgajaaW.PrintMore
set_option linter.unusedVariables false
set_option linter.unusedSimpArgs false
section
variable {w : World} {g rc : Nat} {V : Value} {R : Option Addr} {L : List OW} {h : RS}
/-- One object more. -/
theorem HQ.more {x : OW} (H : HQ w g V R rc L h) (hx : w.heap[x.t]? = some x.robj) (hrow : x.rowOk w) (hT : ¬ FootQ g R L x.t) (hF : x.o.fs ≠ [] → ¬ FootQ g R L x.fb) : HQ w g V R rc (L ++ [x]) h := by
  refine ⟨H.hp, H.rt, fun y hy => ?_, fun y hy => ?_, ?_, fun y hy rb hr hne => ?_⟩
  · rcases List.mem_append.1 hy with hy | hy
    · exact H.ob y hy
    · rw [List.mem_singleton.1 hy]; exact hx
  · rcases List.mem_append.1 hy with hy | hy
    · exact H.row y hy
    · rw [List.mem_singleton.1 hy]; exact hrow
  · rw [List.pairwise_append]
    refine ⟨H.one, by simp, fun a ha b hb => ?_⟩
    rw [List.mem_singleton.1 hb]
    exact ⟨fun e => hT (.inr (.inr ⟨a, ha, .inl e.symm⟩)), fun hn hm e => hF hm (.inr (.inr ⟨a, ha, .inr ⟨hn, e.symm⟩⟩))⟩
  · rcases List.mem_append.1 hy with hy | hy
    · exact H.far y hy rb hr hne
    · rw [List.mem_singleton.1 hy] at hne ⊢
      exact fun e => hF hne (.inr (.inl (by rw [hr, e])))
set_option maxRecDepth 100000 in
set_option maxHeartbeats 2000000 in
theorem rput_calls (H : HR w g V R rc L h) {x : OW} (hk : x.k = 0) (hx : w.heap[x.t]? = some x.robj) (hrow : x.rowOk w) (hT : ¬ FootR g V R L x.t) (hF : x.o.fs ≠ [] → ¬ FootR g V R L x.fb) (hL : L.length ≤ 1000000) (hnx : 0 < h.nx ∧ h.nx % 2 = 0 ∧ h.nx ≤ 900000000000) :
    Calls Try.prog 70 #[ptr g, ptr x.t] w fun e w' => e = .returned (.int .i64 h.nx) ∧ ∃ V', HR w' g V' R rc (L ++ [{ x with k := h.nx }]) { h with nx := h.nx + 2 } ∧ FrP (fun k => FootR g V R L k ∨ k = x.t) w w' ∧ ∀ k, FootR g V' R (L ++ [{ x with k := h.nx }]) k → FootR g V R L k ∨ k = x.t ∨ (x.o.fs ≠ [] ∧ k = x.fb) ∨ w.heap.size ≤ k := by
  obtain ⟨A, c, rfl⟩ := H.ps.shape
  have hxg : x.t ≠ g := fun e => hT (.inl (.inl e))
  have hgx : g ≠ x.t := fun e => hxg e.symm
  have c4 := H.q.c4
  have c2 := H.q.c2
  have f4 := H.q.fz 4
  have f2 := H.q.fz 2
  have k0 : w.cell? ⟨x.t, 0, none⟩ = some (.int .i64 x.k) := (blk_cell hx 0).trans rfl
  have f0 : w.frozen? ⟨x.t, 0, none⟩ = false := blk_frozen hx 0
  have hf1 := Fr.set w x.t 0 (.int .i64 h.nx)
  have h1 := H.frp (FrP.ofFr hf1) (fun k hk e => by
    have e : k = x.t := by simpa using e
    exact hT (e ▸ hk))
  have hx1 : (w.setCell ⟨x.t, 0, none⟩ (.int .i64 h.nx)).heap[x.t]? = some ({ x with k := h.nx } : OW).robj := blk_put hx 0 (.int .i64 h.nx) rfl
  have hrow1 : ({ x with k := h.nx } : OW).rowOk (w.setCell ⟨x.t, 0, none⟩ (.int .i64 h.nx)) := fun hne => OW.rowOk.fr (x := x) hrow hf1 (fun hn => by
    obtain ⟨-, cur, h9, -⟩ := hrow hn
    have : x.fb ≠ x.t := fun e => by rw [e, hx] at h9; simp [OW.robj] at h9
    simpa using this) hne
  obtain ⟨w1, hw1⟩ : ∃ w1, w1 = w.setCell ⟨x.t, 0, none⟩ (.int .i64 h.nx) := ⟨_, rfl⟩
  rw [← hw1] at h1 hx1 hrow1 hf1
  have q1 := h1.q.more hx1 hrow1 (fun e => hT (.inl e)) (fun hne e => hF hne (.inl e))
  have hf2 := Fr.set w1 g 4 (.int .i64 (h.nx + 2))
  have q2 := q1.turned (V' := .slice A L.length c) (h' := { h with nx := h.nx + 2 }) hf2 (by rw [blk_put q1.hp 4 (.int .i64 (h.nx + 2)) rfl]; rfl) rfl
  have p2 := h1.ps.foot h1.q ((FrP.ofFr hf2).mono (fun k _ hk => .inl (by simpa using hk)))
  obtain ⟨w2, hw2⟩ : ∃ w2, w2 = w1.setCell ⟨g, 4, none⟩ (.int .i64 (h.nx + 2)) := ⟨_, rfl⟩
  rw [← hw2] at q2 p2 hf2
  have hbL : Below w2.heap.size w2 (w2.alloc (.cells #[.pointer (some ⟨x.t, 0, none⟩)] 105)) := (Below.refl _ _).alloc (Nat.le_refl _) _
  obtain ⟨O, oc, w4, hrunP, p4, hf4, hblk4⟩ := append_ptr { x with k := h.nx } (p2.new hbL) (q := w2.heap.size) (c := 1) ((blk_cell (heap_alloc_new w2 _) 0).trans rfl) (by omega)
  have q3 := q2.new hbL
  have hno4 : ∀ k, FootQ g R (L ++ [{ x with k := h.nx }]) k → ¬ A = some ⟨k, 0, none⟩ := fun k hk e => by
    obtain ⟨cur, hc⟩ := (p2.new hbL).block (k := k) (by rw [e]; rfl)
    exact q3.ne_p hc hk
  have q4 := q3.frp hf4 hno4
  have hf5 := Fr.set w4 g 2 (.slice O (L.length + 1) oc)
  have q5 := q4.turned (V' := .slice O (L.length + 1) oc) (h' := { h with nx := h.nx + 2 }) hf5 (by rw [blk_put q4.hp 2 (.slice O (L.length + 1) oc) rfl]; rfl) rfl
  have p5 := p4.foot q4 ((FrP.ofFr hf5).mono (fun k _ hk => .inl (by simpa using hk)))
  have hsz12 : w.heap.size ≤ w2.heap.size := Nat.le_trans hf1.size hf2.size
  have hfin : HR (w4.setCell ⟨g, 2, none⟩ (.slice O (L.length + 1) oc)) g (.slice O (L.length + 1) oc) R rc (L ++ [{ x with k := h.nx }]) { h with nx := h.nx + 2 } := by
    refine ⟨q5, p5, ?_, fun y hy => ?_⟩
    · rw [List.pairwise_append]
      refine ⟨H.keys, by simp, fun a ha b hb => ?_⟩
      rw [List.mem_singleton.1 hb]
      have := H.low a ha
      show a.k ≠ h.nx
      omega
    · show 0 < y.k ∧ y.k < h.nx + 2 ∧ y.k % 2 = 0
      rcases List.mem_append.1 hy with hy | hy
      · have := H.low y hy; omega
      · rw [List.mem_singleton.1 hy]
        show 0 < h.nx ∧ h.nx < h.nx + 2 ∧ h.nx % 2 = 0
        omega
  have HFIN := Aside0.mk hfin
  have c24 : w4.cell? ⟨g, 2, none⟩ = some (.slice A L.length c) := q4.c2
  have f24 : w4.frozen? ⟨g, 2, none⟩ = false := q4.fz 2
  have k04 : w4.cell? ⟨x.t, 0, none⟩ = some (.int .i64 h.nx) := (blk_cell (q4.ob { x with k := h.nx } (by simp)) 0).trans rfl
  have hfr : FrP (fun k => FootR g (.slice A L.length c) R L k ∨ k = x.t) w (w4.setCell ⟨g, 2, none⟩ (.slice O (L.length + 1) oc)) := by
    have f1 : FrP (fun k => FootR g (.slice A L.length c) R L k ∨ k = x.t) w w1 := (FrP.ofFr hf1).mono (fun k _ hk => .inr (by simpa using hk))
    have f2 : FrP (fun k => FootR g (.slice A L.length c) R L k ∨ k = x.t) w1 w2 := (FrP.ofFr hf2).mono (fun k _ hk => .inl (.inl (.inl (by simpa using hk))))
    have f4 : FrP (fun k => FootR g (.slice A L.length c) R L k ∨ k = x.t) _ w4 := hf4.mono (fun k _ hk => .inl (.inr (by rw [hk]; rfl)))
    have f5 : FrP (fun k => FootR g (.slice A L.length c) R L k ∨ k = x.t) w4 _ := (FrP.ofFr hf5).mono (fun k _ hk => .inl (.inl (.inl (by simpa using hk))))
    exact (((f1.trans f2).trans (FrP.new hbL _)).trans f4).trans f5
  have hft : ∀ k, FootR g (.slice O (L.length + 1) oc) R (L ++ [{ x with k := h.nx }]) k → FootR g (.slice A L.length c) R L k ∨ k = x.t ∨ (x.o.fs ≠ [] ∧ k = x.fb) ∨ w.heap.size ≤ k := fun k hk => by
    rcases hk with (hk | hk | ⟨y, hy, hk⟩) | hk
    · exact .inl (.inl (.inl hk))
    · exact .inl (.inl (.inr (.inl hk)))
    · rcases List.mem_append.1 hy with hy | hy
      · exact .inl (.inl (.inr (.inr ⟨y, hy, hk⟩)))
      · rw [List.mem_singleton.1 hy] at hk
        rcases hk with hk | hk
        · exact .inr (.inl hk)
        · exact .inr (.inr (.inl hk))
    · have hO : O = some ⟨k, 0, none⟩ := by
        rcases p4.2 with ⟨h1, -⟩ | ⟨qb, cap, cur2, h1, -, h3, -⟩
        · rw [h1] at hk; simp [Value.ownBlock] at hk
        · rw [h1] at hk
          obtain rfl : qb = k := by simpa [Value.ownBlock] using hk
          simp only [Value.slice.injEq] at h1
          exact h1.1
      rcases hblk4 k hO with e | e
      · exact .inl (.inr (by rw [e]; rfl))
      · exact .inr (.inr (.inr (Nat.le_trans hsz12 (Nat.le_trans hbL.size e))))
  have HFR := Aside0.mk (And.intro hfr hft)
  have HWR := Aside0.mk (show wrap64 (h.nx + 2) = h.nx + 2 by unfold wrap64; omega)
  have hsz : w2.heap.size = w.heap.size := by rw [hw2, hw1]; simp
  rw [hsz, hw2, hw1] at hrunP
  unfold ptr
  clear H hx hrow hT hF h1 hx1 hrow1 q1 q2 p2 hbL p4 hf4 hblk4 q3 hno4 q4 hf5 q5 p5 hsz12 hfin hfr hft hsz hw1 hw2 hf1 hf2 hk
  go_enter Try.func70, Try.ntmps70
  go_wp2_with (at_builtin; refine wpList_plain rfl fun K hK => wp_append_words _ _ 81 rfl _ _ _ _ rfl rfl hrunP (hK _ _ ?_))
  go_returns
  exact ⟨rfl, _, HFIN.out, HFR.out⟩
end
end Go.Proofs.Ytlghnldlkbgajaa.S
namespace Go.Proofs.Ytlghnldlkbgajaa.S
open Go.RowKit Go.Proofs.YtlghnldlkbgajaaW.PrintWords Go.Proofs.YtlghnldlkbgajaaW.PrintLast Go.Proofs.YtlghnldlkbgajaaW.PrintMore
set_option linter.unusedVariables false
set_option linter.unusedSimpArgs false
theorem RMid.sm {all : Bool} {L L' : List OW} {h h' : RS} (hm : RMid all L h L' h') (hs : SmT L h) : SmR L' h' := by
  rcases hm with ⟨-, hA⟩ | ⟨-, L1, h1, hY, ⟨-, hA⟩ | ⟨-, rfl, rfl⟩⟩
  · exact (hA.sm hs.s).1
  · have h2 := hY.room hs
    exact (hA.sm ⟨(hY.sm hs.s).1, h2.1, h2.2⟩).1
  · exact (hY.sm hs.s).1
theorem RCol.sm {all : Bool} {L L' : List OW} {h h' : RS} {e : Int} (hc : RCol all L h e L' h') (hs : SmT L h) : SmR L' h' := by
  rcases hc with ⟨-, -, rfl, rfl⟩ | ⟨-, h1, hm, ⟨-, -, rfl⟩ | ⟨-, -, rfl⟩⟩
  · exact hs.sm
  · have := hm.sm hs
    exact ⟨this.len, this.nx, this.fine, this.roots, this.mm⟩
  · exact hm.sm hs
theorem RRoom.sm {n : Int} {L L' : List OW} {h h' : RS} {e : Int} (hr : RRoom n L h e L' h') (hs : SmT L h) : SmR L' h' := by
  rcases hr with ⟨-, -, rfl, rfl⟩ | ⟨-, ⟨-, -, rfl, rfl⟩ | ⟨-, hc⟩⟩
  · exact hs.sm
  · exact hs.sm
  · exact hc.sm hs
section
variable {w : World} {g rc : Nat} {V : Value} {R : Option Addr} {L : List OW} {h : RS}
set_option maxRecDepth 100000 in
theorem rtx_arg {kind : Int} {s : ByteArray} (ha : textB kind = false ∨ 4000 < s.size) (g : Nat) (w : World) : Calls Try.prog 50 #[ptr g, .int .i64 kind, .string s] w fun e w' => e = .returned (.tuple #[.int .i64 0, .int .i64 1]) ∧ w' = w := by
  have HT := Aside0.mk (rtext_calls kind w)
  unfold ptr
  cases hb : textB kind with
  | false =>
    rw [hb] at HT
    clear ha
    go_enter Try.func50, Try.ntmps50
    go_wp2_with fail
    refine HT.out.mono ?_
    rintro e w1 ⟨rfl, rfl⟩
    go_wp2_with fail
    go_returns
    exact ⟨rfl, rfl⟩
  | true =>
    rw [hb] at HT
    have h1 : 4000 < s.size := ha.resolve_left (by rw [hb]; simp)
    have b1 : decide ((4000 : Int) < (s.size : Int)) = true := decide_eq_true (by omega)
    clear ha
    go_enter Try.func50, Try.ntmps50
    go_wp2_with fail
    refine HT.out.mono ?_
    rintro e w1 ⟨rfl, rfl⟩
    go_wp2_with fail
    go_returns
    exact ⟨rfl, rfl⟩
set_option maxRecDepth 100000 in
set_option maxHeartbeats 2000000 in
theorem rtx_calls (H : HR w g V R rc L h) (hs : SmT L h) {kind : Int} {s : ByteArray} (hk : textB kind = true) (hz : s.size ≤ 4000) :
    Calls Try.prog 50 #[ptr g, .int .i64 kind, .string s] w fun e w' => ∃ err L1 h1, RRoom (1 + (((s.size + 7) / 8 : Nat) : Int)) L h err L1 h1 ∧
      ((err ≠ 0 ∧ e = .returned (.tuple #[.int .i64 0, .int .i64 err]) ∧ ∃ V', HR w' g V' R rc L1 h1 ∧ StepR g V R L V' R L1 w w') ∨
       (err = 0 ∧ e = .returned (.tuple #[.int .i64 h1.nx, .int .i64 0]) ∧ ∃ (x : OW) (V' : Value), x.k = h1.nx ∧ x.o = ⟨kind, [], s, false, false⟩ ∧ HR w' g V' R rc (L1 ++ [x]) { h1 with nx := h1.nx + 2 } ∧ StepR g V R L V' R (L1 ++ [x]) w w')) := by
  have HT := Aside0.mk (rtext_calls kind w)
  rw [hk] at HT
  have b1 : decide ((4000 : Int) < (s.size : Int)) = false := decide_eq_false (by omega)
  have HRM := Aside0.mk (rroom_calls H hs (n := 1 + (((s.size + 7) / 8 : Nat) : Int)) (by omega))
  have hq : (((s.size + 7) / 8 : Nat) : Int) = ((s.size : Int) + 7) / 8 := by omega
  rw [hq] at HRM ⊢
  have HS := Aside0.mk hs
  unfold ptr
  unfold ptr at HRM
  clear H hs hq hk
  go_enter Try.func50, Try.ntmps50
  go_wp2_with fail
  refine HT.out.mono ?_
  rintro e w1 ⟨rfl, rfl⟩
  go_wp2_with fail
  refine HRM.out.mono ?_
  rintro e w2 ⟨err, L1, h1, V1, rfl, hrr, hr1, st1⟩
  have hsm := hrr.sm HS.out
  have HRES := Aside0.mk (And.intro hrr (And.intro hr1 st1))
  by_cases he : err = 0
  · subst he
    have hw0 : Below w2.heap.size w2 (w2.alloc (.cells #[.int .i64 0, .int .i64 kind, .slice none 0 0, .string s, .bool false, .bool false] 107)) := (Below.refl _ _).alloc (Nat.le_refl _) _
    have hr2 := hr1.new hw0
    have HPU := Aside0.mk (rput_calls hr2 (x := ⟨0, w2.heap.size, none, 0, 0, ⟨kind, [], s, false, false⟩⟩) rfl (heap_alloc_new w2 _) (fun hne => absurd rfl hne) (fun hk => by have := hr1.foot_lt hk; simp at this) (fun hne => absurd rfl hne) (by have := hsm.len; omega) (by have := hsm.nx; omega))
    have HB := Aside0.mk hw0
    unfold ptr at HPU
    clear hrr hr1 st1 hsm hr2 hw0 HT HRM
    go_wp2_with fail
    refine HPU.out.mono ?_
    rintro e w5 ⟨rfl, V5, h5, f5, t5⟩
    have H5 := Aside0.mk (And.intro h5 (And.intro f5 t5))
    clear h5 f5 t5 HPU
    go_wp2_with fail
    go_returns
    obtain ⟨hrr, hr1, st1⟩ := HRES.out
    obtain ⟨h5, f5, t5⟩ := H5.out
    refine ⟨0, L1, h1, hrr, .inr ⟨rfl, rfl, _, V5, rfl, rfl, h5, st1.trans ⟨?_, fun k hk => ?_⟩⟩⟩
    · refine (FrP.new HB.out _).then (f5.mono (fun k hk hh => ?_))
      rcases hh with hh | rfl
      · exact .inl hh
      · exact .inr (Nat.le_refl _)
    · rcases t5 k hk with h | h | ⟨h, -⟩ | h
      · exact .inl h
      · exact .inr (Nat.le_of_eq h.symm)
      · exact absurd rfl h
      · exact .inr (Nat.le_trans HB.out.size h)
  · have heb : (err != 0) = true := by simpa using he
    clear hrr hr1 st1 hsm HT HRM
    go_wp2_with fail
    go_returns
    obtain ⟨hrr, hr1, st1⟩ := HRES.out
    exact ⟨err, L1, h1, hrr, .inl ⟨he, rfl, V1, hr1, st1⟩⟩
end
end Go.Proofs.Ytlghnldlkbgajaa.S
