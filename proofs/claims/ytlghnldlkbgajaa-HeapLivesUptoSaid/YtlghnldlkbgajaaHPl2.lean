
/- heap: place, whatever the heap. -/
import Derived.Test.YtlghnldlkbgajaaHPl1
namespace Go.Proofs.Ytlghnldlkbgajaa.S
open Go.RowKit Go.Proofs.YtlghnldlkbgajaaW.PrintWords Go.Proofs.YtlghnldlkbgajaaW.PrintLast Go.Proofs.YtlghnldlkbgajaaW.PrintMore
set_option linter.unusedVariables false
set_option linter.unusedSimpArgs false

theorem step_copy {P : Program} {ops : Array Oper} {o : Oper} {a : Act} {w : World} {K : Act → World → Prop} {Q : Exit → Act → World → Prop} {N : Option Tmp} (hgd : o.guard = none) (d s : Operand) (dT sT : TypeId)
    (ho : o.op = .call { callee := .builtin .copy, args := #[d, s], argTypes := #[dT, sT] }) (hN : o.dst = N) (u v r : Value) (w' : World) (hd : a.eval d = u) (hs : a.eval s = v) (hr : ∀ ty, (Builtin.copy_ #[dT, sT] ty #[u, v]).run P w = .ok r w')
    (h : K (a.put N r) w') : if Region.wanted o (yielded ops a.tmps) = true then Oper.wp P o a w K Q else K (a.put N undef) w := by
  have hw : Region.wanted o (yielded ops a.tmps) = true := by simp [Region.wanted, hgd]
  rw [if_pos hw]
  unfold Oper.wp
  simp [execOp, ho, resolve, invoke, builtin, hd, hs, hr, Result.andThen]
  subst hN
  exact h
/-- Room for an object: the error, the objects, the heap, its fields as they are then. -/
def roomF (L : List OW) (h : HH) (o : PO) : Int × List OW × HH × List Int :=
  if h.spent = true ∨ h.room0 < o.cells then (140, L, h, o.fs) else
  if h.room0 < h.has0 + o.cells then
    ((ColF L { h with roots := h.roots ++ o.fs } false).1, (ColF L { h with roots := h.roots ++ o.fs } false).2.1, { (ColF L { h with roots := h.roots ++ o.fs } false).2.2 with roots := (ColF L { h with roots := h.roots ++ o.fs } false).2.2.roots.take h.roots.length }, (ColF L { h with roots := h.roots ++ o.fs } false).2.2.roots.drop h.roots.length)
  else (0, L, h, o.fs)
/-- What place answers, and leaves. -/
def plO (L : List OW) (h : HH) (x : OW) : Int × Int × List OW × HH :=
  if (roomF L h x.o).1 = 0 then ((roomF L h x.o).2.2.1.nx, 0, (roomF L h x.o).2.1 ++ [{ x with k := (roomF L h x.o).2.2.1.nx, o := { x.o with fs := (roomF L h x.o).2.2.2 } }], { (roomF L h x.o).2.2.1 with nx := (roomF L h x.o).2.2.1.nx + 2, has0 := (roomF L h x.o).2.2.1.has0 + x.o.cells })
  else (0, (roomF L h x.o).1, (roomF L h x.o).2.1, (roomF L h x.o).2.2.1)
def PlA (w w' : World) (g b : Nat) (R : Option Addr) (L : List OW) (x : OW) (L' : List OW) (h' : HH) : Prop :=
  ∃ b' R' rc', HW w' g b' 0 R' rc' L' h' ∧ FrP (fun k => Foot g b R L k ∨ k = x.t ∨ (x.o.fs ≠ [] ∧ k = x.fb)) w w' ∧ ∀ k, Foot g b' R' L' k → Foot g b R L k ∨ k = x.t ∨ (x.o.fs ≠ [] ∧ k = x.fb) ∨ w.heap.size ≤ k
theorem ColF_has (L : List OW) (h : HH) (all : Bool) : (ColF L h all).2.2.has0 = 0 ∨ (ColF L h all).2.2.has0 = h.has0 := by
  have h2 : (ColMid L h all).2.has0 = 0 := by
    unfold ColMid
    split <;> rfl
  unfold ColF
  split
  · exact .inr rfl
  · split
    · exact .inl h2
    · exact .inl h2
theorem ColF_err (L : List OW) (h : HH) (all : Bool) : (ColF L h all).1 = 0 ∨ (ColF L h all).1 = 140 := by
  unfold ColF
  split
  · exact .inr rfl
  · split
    · exact .inr rfl
    · exact .inl rfl
set_option maxRecDepth 100000 in
set_option maxHeartbeats 4000000 in
theorem place_calls {w : World} {g b : Nat} {R : Option Addr} {rc : Nat} {L : List OW} {h : HH} (H : HW w g b 0 R rc L h) (hs : Sm L h) (x : OW) (hx : w.heap[x.t]? = some x.obj) (hrow : x.rowOk w) (hT : ¬ Foot g b R L x.t) (hF : x.o.fs ≠ [] → ¬ Foot g b R L x.fb)
    (hfl : x.o.fs.length ≤ 100000) (htx : x.o.text.size ≤ 100000) (hrl : h.roots.length ≤ 100000) (hh0 : 0 ≤ h.has0 ∧ h.has0 ≤ 1000000000) (hnx : h.nx ≤ 800000000000) :
    Calls Try.prog 34 #[ptr g, ptr x.t] w fun e w' => e = .returned (.tuple #[.int .i64 (plO L h x).1, .int .i64 (plO L h x).2.1]) ∧ PlA w w' g b R L x (plO L h x).2.2.1 (plO L h x).2.2.2 := by
  have HC := Aside0.mk (cells_any (w := w) (x := x) (by omega) (by omega) hx)
  obtain ⟨z, hz⟩ : ∃ z, z = plO L h x := ⟨_, rfl⟩
  rw [← hz]
  have HZ0 := Aside0.mk hz
  have H0 := Aside0.mk H
  have HX := Aside0.mk hx
  have HR := Aside0.mk hrow
  have HT := Aside0.mk hT
  have HF := Aside0.mk hF
  have HSm := Aside0.mk hs
  have hxt : x.t < w.heap.size := blk_lt hx
  have hxf : x.o.fs ≠ [] → x.fb < w.heap.size := fun hne => (hrow hne).2.lt
  have HLT := Aside0.mk (And.intro hxt hxf)
  obtain ⟨n, hn⟩ : ∃ n, n = x.o.cells := ⟨_, rfl⟩
  rw [← hn] at HC
  have HN := Aside0.mk hn
  have hn0 : 0 < n ∧ n ≤ 1000000 := by rw [hn]; unfold PO.cells; omega
  clear H hx hrow hT hF hs hz hn hxt hxf
  unfold ptr
  unfold ptr at HC
  go_enter Try.func34, Try.ntmps34
  go_wp2_with fail
  refine HC.out.mono ?_
  rintro e w1 ⟨rfl, hf1⟩
  clear HC
  have H1 := Aside0.mk (H0.out.fr0 hf1)
  have HX1 := Aside0.mk (hf1.get HX.out (by simp))
  have HR1 := Aside0.mk (HR.out.fr hf1 (fun _ => by simp))
  have HF1 := Aside0.mk hf1
  have hsz1 := hf1.size
  clear hf1 HX HR
  have c9 := H1.out.c9
  have c3 := H1.out.c3
  have c5 := H1.out.c5
  by_cases hno : h.spent = true ∨ h.room0 < n
  · have hz2 : z = (0, 140, L, h) := by
      rw [HZ0.out]; unfold plO roomF
      rw [← HN.out, if_pos hno]
      rfl
    have HZ := Aside0.mk hz2
    clear hz2
    rcases Classical.em (h.spent = true) with hsp | hsp
    · rw [hsp] at c9
      clear hno
      go_wp2_with fail
      go_returns
      have hz := HZ.out
      subst hz
      exact ⟨rfl, b, R, rc, H1.out, (FrP.ofFr HF1.out).mono (fun k _ hk => by simp at hk), fun k hk => .inl hk⟩
    · have hsf : h.spent = false := by simpa using hsp
      have hb : decide (h.room0 < n) = true := decide_eq_true (hno.resolve_left hsp)
      rw [hsf] at c9
      clear hno hsp
      go_wp2_with fail
      go_returns
      have hz := HZ.out
      subst hz
      exact ⟨rfl, b, R, rc, H1.out, (FrP.ofFr HF1.out).mono (fun k _ hk => by simp at hk), fun k hk => .inl hk⟩
  · have hsf : h.spent = false := by
      have : ¬ h.spent = true := fun e => hno (.inl e)
      simpa using this
    have hb : decide (h.room0 < n) = false := decide_eq_false (fun e => hno (.inr e))
    rw [hsf] at c9
    have HNO := Aside0.mk hno
    have e0 : IntKind.i64.wrap (h.has0 + n) = h.has0 + n := by rw [IntKind.wrap_i64]; omega
    clear hno
    go_wp2_with fail
    go_region_held3 (fun w' => w'.cell? ⟨g, 5, none⟩ = some (.int .i64 h.has0) ∧ w'.cell? ⟨g, 3, none⟩ = some (.int .i64 h.room0)) (first | exact ⟨c5, c3⟩) (fail)
    have H2 := Aside0.mk (H1.out.fr0 (Fr.drew [] w1))
    have HX2 := Aside0.mk ((Fr.drew [] w1).get HX1.out (by simp))
    have HR2 := Aside0.mk (HR1.out.fr (Fr.drew [] w1) (fun _ => by simp))
    have HF2 := Aside0.mk (HF1.out.trans (Fr.drew [] w1))
    have hsz2 : w.heap.size ≤ w1.drew.heap.size := hsz1
    clear H1 HX1 HR1 HF1 c9 c3 c5 hsz1
    generalize w1.drew = W at *
    by_cases hfull : h.room0 < h.has0 + n
    · have hfb : decide (h.room0 < h.has0 + n) = true := decide_eq_true hfull
      obtain ⟨hA, hhA⟩ : ∃ hA : HH, hA = { h with roots := h.roots ++ x.o.fs } := ⟨_, rfl⟩
      have hroom : roomF L h x.o = ((ColF L hA false).1, (ColF L hA false).2.1, { (ColF L hA false).2.2 with roots := (ColF L hA false).2.2.roots.take h.roots.length }, (ColF L hA false).2.2.roots.drop h.roots.length) := by
        unfold roomF
        rw [← HN.out, if_neg HNO.out, if_pos hfull, hhA]
      have HRM := Aside0.mk hroom
      have c2 := H2.out.c2
      clear hroom
      go_wp2_with fail
      have c2 : W.drew.cell? ⟨g, 2, none⟩ = some (.slice R h.roots.length rc) := c2
      have o1 : W.drew.cell? ⟨x.t, 1, none⟩ = some (.slice x.A x.o.fs.length x.c) := (blk_cell HX2.out 1).trans rfl
      have HD := H2.out.fr0 (Fr.drew [] W)
      obtain ⟨R2, rc2, wA, hrun, hown, hfA, hblk⟩ := append_words HD.rt (A := x.A) (c := x.c) (m := x.o.fs) (fun hne => ⟨x.fb, (HR2.out hne).1, (HR2.out hne).2.fr (Fr.drew [] W) (by simp)⟩) (by omega)
      have hgR : ¬ R = some ⟨g, 0, none⟩ := fun e => HD.ne_gr e rfl
      have hgA := hfA.get HD.hp hgR
      have c2A : wA.cell? ⟨g, 2, none⟩ = some (.slice R h.roots.length rc) := (blk_cell hgA 2).trans rfl
      have f2A : wA.frozen? ⟨g, 2, none⟩ = false := blk_frozen hgA 2
      have o1A : wA.cell? ⟨x.t, 1, none⟩ = some (.slice x.A x.o.fs.length x.c) := (blk_cell (hfA.get (show W.drew.heap[x.t]? = some x.obj from HX2.out) (fun e => HT.out (.inr (.inr (.inl e))))) 1).trans rfl
      obtain ⟨hpu, hpf, hpk⟩ := HD.pushed x.o.fs hown hfA hblk
      rw [← hhA] at hpu
      have HPU := Aside0.mk hpu
      have HPF := Aside0.mk hpf
      have HPK := Aside0.mk hpk
      clear HD hown hfA hblk hgR hgA hpu hpf hpk
      refine start_ (n := 13) (S := (fun w' => w'.cell? ⟨g, 2, none⟩ = some (.slice R h.roots.length rc) ∧ w'.cell? ⟨x.t, 1, none⟩ = some (.slice x.A x.o.fs.length x.c))) (ds := [9, 12]) #[false, false, false, false, false, false, false, false, false, false, false, false, false] (by kernel_rfl) rfl rfl ⟨c2, o1⟩ (fun hHeld => ?_)
      refine pure_ (i := 0) (N := some 43) (v := ?_) (a' := ?_) #[true, false, false, false, false, false, false, false, false, false, false, false, false] rfl rfl (by kernel_rfl) (fun _ _ _ h => h) (Or.inl ⟨by rfl, ?_⟩) ?_ ?_
      rotate_left
      · intro w'
        go_simp
        with_reducible rfl
      rotate_left
      · simp only [Act.put, List.setIfInBounds_toArray, List.set_cons_zero, List.set_cons_succ, i64_w, i32_w]
        rfl
      refine take_ (i := 1) (N := some 44) (v := ?_) (a' := ?_) #[true, true, false, false, false, false, false, false, false, false, false, false, false] rfl rfl (by kernel_rfl) (fun _ _ _ h => h) (Or.inl ⟨by rfl, ?_⟩) hHeld ?_ ?_
      rotate_left
      · rintro w' ⟨s0, s1⟩
        go_simp
        with_reducible rfl
      rotate_left
      · simp only [Act.put, List.setIfInBounds_toArray, List.set_cons_zero, List.set_cons_succ, i64_w, i32_w]
        rfl
      refine take_ (i := 2) (N := some 45) (v := ?_) (a' := ?_) #[true, true, true, false, false, false, false, false, false, false, false, false, false] rfl rfl (by kernel_rfl) (fun _ _ _ h => h) (Or.inl ⟨by rfl, ?_⟩) hHeld ?_ ?_
      rotate_left
      · rintro w' ⟨s0, s1⟩
        go_simp
        with_reducible rfl
      rotate_left
      · simp only [Act.put, List.setIfInBounds_toArray, List.set_cons_zero, List.set_cons_succ, i64_w, i32_w]
        rfl
      refine take_ (i := 3) (N := some 46) (v := ?_) (a' := ?_) #[true, true, true, true, false, false, false, false, false, false, false, false, false] rfl rfl (by kernel_rfl) (fun _ _ _ h => h) (Or.inl ⟨by rfl, ?_⟩) hHeld ?_ ?_
      rotate_left
      · rintro w' ⟨s0, s1⟩
        go_simp
        with_reducible rfl
      rotate_left
      · simp only [Act.put, List.setIfInBounds_toArray, List.set_cons_zero, List.set_cons_succ, i64_w, i32_w]
        rfl
      refine take_ (i := 4) (N := some 47) (v := ?_) (a' := ?_) #[true, true, true, true, true, false, false, false, false, false, false, false, false] rfl rfl (by kernel_rfl) (fun _ _ _ h => h) (Or.inl ⟨by rfl, ?_⟩) hHeld ?_ ?_
      rotate_left
      · rintro w' ⟨s0, s1⟩
        go_simp
        with_reducible rfl
      rotate_left
      · simp only [Act.put, List.setIfInBounds_toArray, List.set_cons_zero, List.set_cons_succ, i64_w, i32_w]
        rfl
      refine take_ (i := 5) (N := some 48) (v := ?_) (a' := ?_) #[true, true, true, true, true, true, false, false, false, false, false, false, false] rfl rfl (by kernel_rfl) (fun _ _ _ h => h) (Or.inl ⟨by rfl, ?_⟩) hHeld ?_ ?_
      rotate_left
      · rintro w' ⟨s0, s1⟩
        go_simp
        with_reducible rfl
      rotate_left
      · simp only [Act.put, List.setIfInBounds_toArray, List.set_cons_zero, List.set_cons_succ, i64_w, i32_w]
        rfl
      refine take_ (i := 6) (N := some 49) (v := ?_) (a' := ?_) #[true, true, true, true, true, true, true, false, false, false, false, false, false] rfl rfl (by kernel_rfl) (fun _ _ _ h => h) (Or.inl ⟨by rfl, ?_⟩) hHeld ?_ ?_
      rotate_left
      · rintro w' ⟨s0, s1⟩
        go_simp
        with_reducible rfl
      rotate_left
      · simp only [Act.put, List.setIfInBounds_toArray, List.set_cons_zero, List.set_cons_succ, i64_w, i32_w]
        rfl
      refine take_ (i := 7) (N := some 50) (v := ?_) (a' := ?_) #[true, true, true, true, true, true, true, true, false, false, false, false, false] rfl rfl (by kernel_rfl) (fun _ _ _ h => h) (Or.inl ⟨by rfl, ?_⟩) hHeld ?_ ?_
      rotate_left
      · rintro w' ⟨s0, s1⟩
        go_simp
        with_reducible rfl
      rotate_left
      · simp only [Act.put, List.setIfInBounds_toArray, List.set_cons_zero, List.set_cons_succ, i64_w, i32_w]
        rfl
      refine take_ (i := 8) (N := some 51) (v := ?_) (a' := ?_) #[true, true, true, true, true, true, true, true, true, false, false, false, false] rfl rfl (by kernel_rfl) (fun _ _ _ h => h) (Or.inl ⟨by rfl, ?_⟩) hHeld ?_ ?_
      rotate_left
      · rintro w' ⟨s0, s1⟩
        go_simp
        with_reducible rfl
      rotate_left
      · simp only [Act.put, List.setIfInBounds_toArray, List.set_cons_zero, List.set_cons_succ, i64_w, i32_w]
        rfl
      refine last_ (i := 9) (N := some 52) #[true, true, true, true, true, true, true, true, true, true, false, false, false] rfl rfl (by kernel_rfl) (by decide) (fun K hK => ?_)
      rw [if_pos (by rfl)]
      refine wp_append_words (.tmp 47) (.tmp 51) 33 rfl _ _ _ _ rfl rfl hrun ?_
      refine hK.out _ _ ?_
      clear hK K
      refine norm_ (a' := ?_) ?_ ?_
      rotate_left
      · show Act.put _ (some 52) _ = _
        simp only [Act.put, List.setIfInBounds_toArray, List.set_cons_zero, List.set_cons_succ, i64_w, i32_w]
        rfl
      have hHeld := And.intro c2A o1A
      refine pure_ (i := 10) (N := some 53) (v := ?_) (a' := ?_) #[true, true, true, true, true, true, true, true, true, true, true, false, false] rfl rfl (by kernel_rfl) (fun _ _ _ h => h) (Or.inl ⟨by rfl, ?_⟩) ?_ ?_
      rotate_left
      · intro w'
        go_simp
        with_reducible rfl
      rotate_left
      · simp only [Act.put, List.setIfInBounds_toArray, List.set_cons_zero, List.set_cons_succ, i64_w, i32_w]
        rfl
      refine pure_ (i := 11) (N := some 54) (v := ?_) (a' := ?_) #[true, true, true, true, true, true, true, true, true, true, true, true, false] rfl rfl (by kernel_rfl) (fun _ _ _ h => h) (Or.inl ⟨by rfl, ?_⟩) ?_ ?_
      rotate_left
      · intro w'
        go_simp
        with_reducible rfl
      rotate_left
      · simp only [Act.put, List.setIfInBounds_toArray, List.set_cons_zero, List.set_cons_succ, i64_w, i32_w]
        rfl
      refine last_ (i := 12) (N := none) #[true, true, true, true, true, true, true, true, true, true, true, true, true] rfl rfl (by kernel_rfl) (by decide) (fun K hK => ?_)
      refine skip_ (w1 := ?_) (by rfl) rfl ?_ ?_
      rotate_left
      · go_simp
        rfl
      refine hK.out _ _ ?_
      clear hK K
      refine done_ (by kernel_rfl) ?_
      obtain ⟨wB, hwB⟩ : ∃ wB, wB = wA.setCell ⟨g, 2, none⟩ (.slice R2 (h.roots.length + x.o.fs.length) rc2) := ⟨_, rfl⟩
      rw [← hwB]
      rw [← hwB] at HPU HPF
      clear hwB c2 c2A f2A o1 o1A hrun
      have hsA : Sm L hA := by
        rw [hhA]
        exact ⟨HSm.out.len, HSm.out.nx, HSm.out.fs, HSm.out.tx, by show (h.roots ++ x.o.fs).length ≤ _; rw [List.length_append]; omega, HSm.out.mm⟩
      go_wp2_with fail
      refine (Collect_calls HPU.out hsA false).mono ?_
      rintro e w7 ⟨rfl, b2, hw2, hf2, hk2⟩
      have hlen2 : (ColF L hA false).2.2.roots.length = h.roots.length + x.o.fs.length := by rw [ColF_roots, hhA]; exact List.length_append
      have hnx2 := ColF_nx L hA false (by rw [hhA]; exact ⟨HSm.out.nx.1, HSm.out.nx.2.1⟩) HSm.out.len
      have hhas2 := ColF_has L hA false
      have hnxA : hA.nx = h.nx := by rw [hhA]
      have hhasA : hA.has0 = h.has0 := by rw [hhA]
      rw [hnxA] at hnx2
      rw [hhasA] at hhas2
      have herr := ColF_err L hA false
      have hz2 := HZ0.out
      unfold plO at hz2
      rw [HRM.out] at hz2
      simp only [] at hz2
      obtain ⟨er, hEr⟩ : ∃ er, er = (ColF L hA false).1 := ⟨_, rfl⟩
      obtain ⟨L2, hL2⟩ : ∃ L2, L2 = (ColF L hA false).2.1 := ⟨_, rfl⟩
      obtain ⟨h2, hh2⟩ : ∃ h2, h2 = (ColF L hA false).2.2 := ⟨_, rfl⟩
      rw [← hEr] at herr hz2
      rw [← hEr]
      rw [← hL2] at hw2 hk2 hz2
      rw [← hh2] at hw2 hlen2 hnx2 hhas2 hz2
      have hsW : w.heap.size ≤ W.drew.heap.size := hsz2
      have fWB : FrP (Foot g b R L) W wB := (FrP.ofFr (Fr.drew [] W) |>.mono (fun k _ hk => by simp at hk)).trans HPF.out
      have fW7 : FrP (Foot g b R L) W w7 := fWB.grow hf2 (fun k hk => HPK.out k hk)
      have hk7 : ∀ k, Foot g b2 R2 L2 k → Foot g b R L k ∨ w.heap.size ≤ k := fun k hk => (hk2 k hk).elim (fun hk => (HPK.out k hk).imp id (fun e => Nat.le_trans hsW e)) (fun e => .inr (by have := HPF.out.size; omega))
      have HX7 := Aside0.mk (fW7.get HX2.out HT.out)
      have HR7 := Aside0.mk (HR2.out.frp fW7 HF.out)
      have HW7 := Aside0.mk hw2
      have HAc := Aside0.mk (And.intro (((FrP.ofFr HF2.out).mono (T' := Foot g b R L) (fun k _ hk => by simp at hk)).trans fW7) hk7)
      have HZ := Aside0.mk hz2
      have HL2 := Aside0.mk hlen2
      have HNB := Aside0.mk (And.intro hnx2 hhas2)
      have hT7 : ¬ Foot g b2 R2 L2 x.t := fun hk => (hk7 _ hk).elim HT.out (fun e => by have := HLT.out.1; omega)
      have hF7 : x.o.fs ≠ [] → ¬ Foot g b2 R2 L2 x.fb := fun hne hk => (hk7 _ hk).elim (HF.out hne) (fun e => by have := HLT.out.2 hne; omega)
      have HT7 := Aside0.mk (And.intro hT7 hF7)
      have o1 : w7.drew.cell? ⟨x.t, 1, none⟩ = some (.slice x.A x.o.fs.length x.c) := (blk_cell HX7.out 1).trans rfl
      have c2 : w7.cell? ⟨g, 2, none⟩ = some (.slice R2 (h.roots.length + x.o.fs.length) rc2) := by rw [← hlen2]; exact hw2.c2
      have hrt := hw2.rt.2
      clear hsA hEr hL2 hh2 hnxA hhasA hsW fWB fW7 hk7 hT7 hF7 hz2 hnx2 hhas2 hf2 hk2 hw2 hhA HPU HPF HPK HRM H2 HX2 HR2 HF2 hfb hsz2
      rcases hrt with ⟨hv, hn0⟩ | ⟨rb, cap, cur, hv, -, hcur, hncap, hcm, hcs, htk⟩
      · simp only [Value.slice.injEq] at hv
        obtain ⟨rfl, -, rfl⟩ := hv
        have hr0 : h.roots.length = 0 := by omega
        have hf0 : x.o.fs.length = 0 := by omega
        rw [hr0, hf0] at c2
        rw [hf0] at o1
        rw [hr0] at HZ
        rw [hr0]
        have hdl : (h2.roots.drop 0).length = x.o.fs.length := by rw [List.drop_zero]; omega
        have hdn : h2.roots.drop 0 = [] := List.length_eq_zero_iff.1 (by rw [hdl]; exact hf0)
        obtain ⟨w8, hcp, hrw8, hf8⟩ := copy_words (w := w7.drew) (A := x.A) (S := none) (c := x.c) (sc := 0) (q := x.fb) (old := x.o.fs) (m := h2.roots.drop 0) (fun hne => absurd hdn hne) (fun hne => absurd hdn hne) hdl.symm (fun hne => absurd hdn hne)
        rw [hdl, hf0] at hcp
        go_wp2_with fail
        have c2 : w7.drew.cell? ⟨g, 2, none⟩ = some (.slice none 0 0) := c2
        refine start_ (n := 11) (S := (fun w' => w'.cell? ⟨g, 2, none⟩ = some (.slice none 0 0) ∧ w'.cell? ⟨x.t, 1, none⟩ = some (.slice x.A 0 x.c))) (ds := [10]) #[false, false, false, false, false, false, false, false, false, false, false] (by kernel_rfl) rfl rfl ⟨c2, o1⟩ (fun hHeld => ?_)
        refine take_ (i := 0) (N := some 57) (v := ?_) (a' := ?_) #[true, false, false, false, false, false, false, false, false, false, false] rfl rfl (by kernel_rfl) (fun _ _ _ h => h) (Or.inl ⟨by rfl, ?_⟩) hHeld ?_ ?_
        rotate_left
        · rintro w' ⟨s0, s1⟩
          go_simp
          with_reducible rfl
        rotate_left
        · simp only [Act.put, List.setIfInBounds_toArray, List.set_cons_zero, List.set_cons_succ, i64_w, i32_w]
          rfl
        refine take_ (i := 1) (N := some 58) (v := ?_) (a' := ?_) #[true, true, false, false, false, false, false, false, false, false, false] rfl rfl (by kernel_rfl) (fun _ _ _ h => h) (Or.inl ⟨by rfl, ?_⟩) hHeld ?_ ?_
        rotate_left
        · rintro w' ⟨s0, s1⟩
          go_simp
          with_reducible rfl
        rotate_left
        · simp only [Act.put, List.setIfInBounds_toArray, List.set_cons_zero, List.set_cons_succ, i64_w, i32_w]
          rfl
        refine take_ (i := 2) (N := some 59) (v := ?_) (a' := ?_) #[true, true, true, false, false, false, false, false, false, false, false] rfl rfl (by kernel_rfl) (fun _ _ _ h => h) (Or.inl ⟨by rfl, ?_⟩) hHeld ?_ ?_
        rotate_left
        · rintro w' ⟨s0, s1⟩
          go_simp
          with_reducible rfl
        rotate_left
        · simp only [Act.put, List.setIfInBounds_toArray, List.set_cons_zero, List.set_cons_succ, i64_w, i32_w]
          rfl
        refine take_ (i := 3) (N := some 60) (v := ?_) (a' := ?_) #[true, true, true, true, false, false, false, false, false, false, false] rfl rfl (by kernel_rfl) (fun _ _ _ h => h) (Or.inl ⟨by rfl, ?_⟩) hHeld ?_ ?_
        rotate_left
        · rintro w' ⟨s0, s1⟩
          go_simp
          with_reducible rfl
        rotate_left
        · simp only [Act.put, List.setIfInBounds_toArray, List.set_cons_zero, List.set_cons_succ, i64_w, i32_w]
          rfl
        refine take_ (i := 4) (N := some 61) (v := ?_) (a' := ?_) #[true, true, true, true, true, false, false, false, false, false, false] rfl rfl (by kernel_rfl) (fun _ _ _ h => h) (Or.inl ⟨by rfl, ?_⟩) hHeld ?_ ?_
        rotate_left
        · rintro w' ⟨s0, s1⟩
          go_simp
          with_reducible rfl
        rotate_left
        · simp only [Act.put, List.setIfInBounds_toArray, List.set_cons_zero, List.set_cons_succ, i64_w, i32_w]
          rfl
        refine take_ (i := 5) (N := some 62) (v := ?_) (a' := ?_) #[true, true, true, true, true, true, false, false, false, false, false] rfl rfl (by kernel_rfl) (fun _ _ _ h => h) (Or.inl ⟨by rfl, ?_⟩) hHeld ?_ ?_
        rotate_left
        · rintro w' ⟨s0, s1⟩
          go_simp
          with_reducible rfl
        rotate_left
        · simp only [Act.put, List.setIfInBounds_toArray, List.set_cons_zero, List.set_cons_succ, i64_w, i32_w]
          rfl
        refine take_ (i := 6) (N := some 63) (v := ?_) (a' := ?_) #[true, true, true, true, true, true, true, false, false, false, false] rfl rfl (by kernel_rfl) (fun _ _ _ h => h) (Or.inl ⟨by rfl, ?_⟩) hHeld ?_ ?_
        rotate_left
        · rintro w' ⟨s0, s1⟩
          go_simp
          with_reducible rfl
        rotate_left
        · simp only [Act.put, List.setIfInBounds_toArray, List.set_cons_zero, List.set_cons_succ, i64_w, i32_w]
          rfl
        refine take_ (i := 7) (N := some 64) (v := ?_) (a' := ?_) #[true, true, true, true, true, true, true, true, false, false, false] rfl rfl (by kernel_rfl) (fun _ _ _ h => h) (Or.inl ⟨by rfl, ?_⟩) hHeld ?_ ?_
        rotate_left
        · rintro w' ⟨s0, s1⟩
          go_simp
          with_reducible rfl
        rotate_left
        · simp only [Act.put, List.setIfInBounds_toArray, List.set_cons_zero, List.set_cons_succ, i64_w, i32_w]
          rfl
        refine take_ (i := 8) (N := some 65) (v := ?_) (a' := ?_) #[true, true, true, true, true, true, true, true, true, false, false] rfl rfl (by kernel_rfl) (fun _ _ _ h => h) (Or.inl ⟨by rfl, ?_⟩) hHeld ?_ ?_
        rotate_left
        · rintro w' ⟨s0, s1⟩
          go_simp
          with_reducible rfl
        rotate_left
        · simp only [Act.put, List.setIfInBounds_toArray, List.set_cons_zero, List.set_cons_succ, i64_w, i32_w]
          rfl
        refine take_ (i := 9) (N := some 66) (v := ?_) (a' := ?_) #[true, true, true, true, true, true, true, true, true, true, false] rfl rfl (by kernel_rfl) (fun _ _ _ h => h) (Or.inl ⟨by rfl, ?_⟩) hHeld ?_ ?_
        rotate_left
        · rintro w' ⟨s0, s1⟩
          go_simp
          with_reducible rfl
        rotate_left
        · simp only [Act.put, List.setIfInBounds_toArray, List.set_cons_zero, List.set_cons_succ, i64_w, i32_w]
          rfl
        refine last_ (i := 10) (N := some 67) #[true, true, true, true, true, true, true, true, true, true, true] rfl rfl (by kernel_rfl) (by decide) (fun K hK => ?_)
        refine step_copy rfl (.tmp 60) (.tmp 66) 33 33 rfl rfl _ _ _ _ rfl rfl hcp ?_
        refine hK.out _ _ ?_
        clear hK K
        refine norm_ (a' := ?_) ?_ ?_
        rotate_left
        · show Act.put _ (some 67) _ = _
          simp only [Act.put, List.setIfInBounds_toArray, List.set_cons_zero, List.set_cons_succ, i64_w, i32_w]
          rfl
        refine done_ (by kernel_rfl) ?_
        have HP8 := (HW7.out.fr0 (Fr.drew [] w7)).frp hf8 (fun k hk e => HT7.out.2 (fun h0 => e.1 (List.length_eq_zero_iff.1 (by rw [hdl, h0]; rfl))) (by rw [← e.2]; exact hk))
        have hx8 : w8.heap[x.t]? = some x.obj := hf8.get (show w7.drew.heap[x.t]? = some x.obj from HX7.out) (fun e => by
          have hne : x.o.fs ≠ [] := fun h0 => e.1 (List.length_eq_zero_iff.1 (by rw [hdl, h0]; rfl))
          obtain ⟨-, cur, h3, -⟩ := HR7.out hne
          rw [← e.2, HX7.out] at h3
          simp [OW.obj] at h3)
        obtain ⟨fsP, hfsP⟩ : ∃ fsP, fsP = h2.roots.drop 0 := ⟨_, rfl⟩
        obtain ⟨hP, hhP⟩ : ∃ hP : HH, hP = { h2 with roots := h2.roots.take 0 } := ⟨_, rfl⟩
        have hpop := HP8.popped (n := 0) (Nat.zero_le _)
        rw [← hhP] at hpop
        rw [← hfsP] at hdl hrw8
        have c28 : w8.cell? ⟨g, 2, none⟩ = some (.slice none 0 0) := by have := HP8.c2; rw [hlen2, hr0, hf0] at this; exact this
        have f28 : w8.frozen? ⟨g, 2, none⟩ = false := HP8.fz 2
        obtain ⟨wP, hwP⟩ : ∃ wP, wP = w8.setCell ⟨g, 2, none⟩ (.slice none 0 0) := ⟨_, rfl⟩
        rw [← hwP] at hpop
        have fP : Fr [g] w8 wP := by rw [hwP]; exact Fr.set w8 g 2 _
        have hxg : x.t ≠ g := fun e => HT.out (.inl e)
        obtain ⟨bP, hbP⟩ : ∃ bP, bP = b2 := ⟨_, rfl⟩
        obtain ⟨RP, hRP⟩ : ∃ RP : Option Addr, RP = none := ⟨_, rfl⟩
        obtain ⟨rcP, hrcP⟩ : ∃ rcP, rcP = 0 := ⟨_, rfl⟩
        obtain ⟨LP, hLP⟩ : ∃ LP, LP = L2 := ⟨_, rfl⟩
        have HP := Aside0.mk (show HW wP g bP 0 RP rcP LP hP by rw [hbP, hRP, hrcP, hLP]; exact hpop)
        have HFL := Aside0.mk (show fsP.length = x.o.fs.length from hdl)
        have HXP := Aside0.mk (show wP.heap[x.t]? = some ({ x with o := { x.o with fs := fsP } } : OW).obj by
          rw [fP.get hx8 (by simpa using hxg)]
          simp [OW.obj, HFL.out])
        have HRP := Aside0.mk (show ({ x with o := { x.o with fs := fsP } } : OW).rowOk wP from fun hne => by
          have hne' : fsP ≠ [] := hne
          have hne2 : x.o.fs ≠ [] := fun h0 => hne' (List.length_eq_zero_iff.1 (by rw [HFL.out, h0]; rfl))
          exact ⟨(HR7.out hne2).1, (hrw8 hne').fr fP (by have : x.fb ≠ g := fun e => HF.out hne2 (.inl e); simpa using this)⟩)
        have HTP := Aside0.mk (show ¬ Foot g bP RP LP x.t by rw [hbP, hRP, hLP]; exact HT7.out.1)
        have HFP := Aside0.mk (show fsP ≠ [] → ¬ Foot g bP RP LP x.fb by
          rw [hbP, hRP, hLP]
          exact fun hne => HT7.out.2 (fun h0 => hne (List.length_eq_zero_iff.1 (by rw [HFL.out, h0]; rfl))))
        have HAcc := Aside0.mk (show FrP (fun k => Foot g b R L k ∨ k = x.t ∨ (x.o.fs ≠ [] ∧ k = x.fb)) w wP ∧ ∀ k, Foot g bP RP LP k → Foot g b R L k ∨ w.heap.size ≤ k by
          rw [hbP, hRP, hLP]
          have f1 : FrP (fun k => Foot g b R L k ∨ k = x.t ∨ (x.o.fs ≠ [] ∧ k = x.fb)) w w7 := HAc.out.1.mono (fun k _ hk => .inl hk)
          have f2 : FrP (fun k => Foot g b R L k ∨ k = x.t ∨ (x.o.fs ≠ [] ∧ k = x.fb)) w7 w7.drew := (FrP.ofFr (Fr.drew [] w7)).mono (fun k _ hk => by simp at hk)
          have f3 : FrP (fun k => Foot g b R L k ∨ k = x.t ∨ (x.o.fs ≠ [] ∧ k = x.fb)) w7.drew w8 := hf8.mono (fun k _ hk => .inr (.inr ⟨fun h0 => hk.1 (List.length_eq_zero_iff.1 (by rw [← hfsP, HFL.out, h0]; rfl)), hk.2⟩))
          have f4 : FrP (fun k => Foot g b R L k ∨ k = x.t ∨ (x.o.fs ≠ [] ∧ k = x.fb)) w8 wP := (FrP.ofFr fP).mono (fun k _ hk => .inl (.inl (by simpa using hk)))
          exact ⟨((f1.trans f2).trans f3).trans f4, HAc.out.2⟩)
        have HNBq := HNB
        have HNB := Aside0.mk (show 0 < hP.nx ∧ hP.nx % 2 = 0 ∧ hP.nx ≤ 900000000000 ∧ 0 ≤ hP.has0 ∧ hP.has0 ≤ 1000000000 by
          have h1 := HNBq.out
          rw [hhP]
          show 0 < h2.nx ∧ h2.nx % 2 = 0 ∧ h2.nx ≤ 900000000000 ∧ 0 ≤ h2.has0 ∧ h2.has0 ≤ 1000000000
          omega)
        rcases herr with rfl | rfl
        · have hzz : z = (hP.nx, 0, LP ++ [{ x with k := hP.nx, o := { x.o with fs := fsP } }], { hP with nx := hP.nx + 2, has0 := hP.has0 + x.o.cells }) := by rw [HZ.out, if_pos rfl, hfsP, hhP, hLP]
          have HZq := Aside0.mk hzz
          clear HZ
          have HZ := HZq
          clear hpop HZq HNBq hhP hfsP hbP hRP hrcP hLP hzz
          -- put: HP, HXP (its block), HRP (its row), HTP, HFP (apart), HAcc (all else), HZ
          have c0 := HP.out.c0
          have c1 := HP.out.c1
          have f1 := HP.out.fz 1
          have hgb := HP.out.ne_gb
          obtain ⟨w2, hu, hm, hb⟩ := map_update (P := Try.prog) Try.underlying63 Try.underlying28 (HP.out.mp.fr (Fr.set wP g 1 (.int .i64 (hP.nx + 2))) (by simpa using hgb.symm)) hP.nx (ptr x.t)
          unfold ptr at hu
          have hp2 : w2.heap[g]? = some (hhObj bP RP rcP { hP with nx := hP.nx + 2 }) := (hb.block g hgb).trans (blk_put HP.out.hp 1 _ rfl)
          have c0' : (wP.setCell ⟨g, 1, none⟩ (.int .i64 (hP.nx + 2))).cell? ⟨g, 0, none⟩ = some (.map (some bP)) := (blk_cell (blk_put HP.out.hp 1 (.int .i64 (hP.nx + 2)) rfl : (wP.setCell ⟨g, 1, none⟩ (.int .i64 (hP.nx + 2))).heap[g]? = some (hhObj bP RP rcP { hP with nx := hP.nx + 2 })) 0).trans rfl
          have c5 : w2.cell? ⟨g, 5, none⟩ = some (.int .i64 hP.has0) := (blk_cell hp2 5).trans rfl
          have f5 : w2.frozen? ⟨g, 5, none⟩ = false := blk_frozen hp2 5
          have hnb := HNB.out
          have e1 : IntKind.i64.wrap (hP.nx + 2) = hP.nx + 2 := by rw [IntKind.wrap_i64]; omega
          have e2 : IntKind.i64.wrap (hP.has0 + n) = hP.has0 + n := by rw [IntKind.wrap_i64]; omega
          have hpl := HP.out.placed (w2 := w2) { x with o := { x.o with fs := fsP } } HXP.out HRP.out HTP.out HFP.out (hP.has0 + n) ⟨hnb.1, hnb.2.1⟩ rfl hm hb rfl
          have HPL := Aside0.mk hpl
          clear hm hb hp2 hgb hpl hnb
          subst hwP
          go_wp2_with fail
          refine start_ (n := 11) (S := (fun w' => w'.cell? ⟨g, 5, none⟩ = some (.int .i64 hP.has0))) (ds := [10]) #[false, false, false, false, false, false, false, false, false, false, false] (by kernel_rfl) rfl rfl c5 (fun hHeld => ?_)
          refine take_ (i := 0) (N := some 97) (v := ?_) (a' := ?_) #[true, false, false, false, false, false, false, false, false, false, false] rfl rfl (by kernel_rfl) (fun _ _ _ h => h) (Or.inl ⟨by rfl, ?_⟩) hHeld ?_ ?_
          rotate_left
          · rintro w' s0
            go_simp
            with_reducible rfl
          rotate_left
          · simp only [Act.put, List.setIfInBounds_toArray, List.set_cons_zero, List.set_cons_succ, i64_w, i32_w]
            rfl
          refine take_ (i := 1) (N := some 98) (v := ?_) (a' := ?_) #[true, true, false, false, false, false, false, false, false, false, false] rfl rfl (by kernel_rfl) (fun _ _ _ h => h) (Or.inl ⟨by rfl, ?_⟩) hHeld ?_ ?_
          rotate_left
          · rintro w' s0
            go_simp
            with_reducible rfl
          rotate_left
          · simp only [Act.put, List.setIfInBounds_toArray, List.set_cons_zero, List.set_cons_succ, i64_w, i32_w]
            rfl
          refine take_ (i := 2) (N := some 99) (v := ?_) (a' := ?_) #[true, true, true, false, false, false, false, false, false, false, false] rfl rfl (by kernel_rfl) (fun _ _ _ h => h) (Or.inl ⟨by rfl, ?_⟩) hHeld ?_ ?_
          rotate_left
          · rintro w' s0
            go_simp
            with_reducible rfl
          rotate_left
          · simp only [Act.put, List.setIfInBounds_toArray, List.set_cons_zero, List.set_cons_succ, i64_w, i32_w]
            rfl
          refine take_ (i := 3) (N := some 100) (v := ?_) (a' := ?_) #[true, true, true, true, false, false, false, false, false, false, false] rfl rfl (by kernel_rfl) (fun _ _ _ h => h) (Or.inl ⟨by rfl, ?_⟩) hHeld ?_ ?_
          rotate_left
          · rintro w' s0
            go_simp
            with_reducible rfl
          rotate_left
          · simp only [Act.put, List.setIfInBounds_toArray, List.set_cons_zero, List.set_cons_succ, i64_w, i32_w]
            rfl
          refine take_ (i := 4) (N := some 101) (v := ?_) (a' := ?_) #[true, true, true, true, true, false, false, false, false, false, false] rfl rfl (by kernel_rfl) (fun _ _ _ h => h) (Or.inl ⟨by rfl, ?_⟩) hHeld ?_ ?_
          rotate_left
          · rintro w' s0
            go_simp
            with_reducible rfl
          rotate_left
          · simp only [Act.put, List.setIfInBounds_toArray, List.set_cons_zero, List.set_cons_succ, i64_w, i32_w]
            rfl
          refine take_ (i := 5) (N := some 102) (v := ?_) (a' := ?_) #[true, true, true, true, true, true, false, false, false, false, false] rfl rfl (by kernel_rfl) (fun _ _ _ h => h) (Or.inl ⟨by rfl, ?_⟩) hHeld ?_ ?_
          rotate_left
          · rintro w' s0
            go_simp
            with_reducible rfl
          rotate_left
          · simp only [Act.put, List.setIfInBounds_toArray, List.set_cons_zero, List.set_cons_succ, i64_w, i32_w]
            rfl
          refine take_ (i := 6) (N := some 103) (v := ?_) (a' := ?_) #[true, true, true, true, true, true, true, false, false, false, false] rfl rfl (by kernel_rfl) (fun _ _ _ h => h) (Or.inl ⟨by rfl, ?_⟩) hHeld ?_ ?_
          rotate_left
          · rintro w' s0
            go_simp
            with_reducible rfl
          rotate_left
          · simp only [Act.put, List.setIfInBounds_toArray, List.set_cons_zero, List.set_cons_succ, i64_w, i32_w]
            rfl
          refine take_ (i := 7) (N := some 104) (v := ?_) (a' := ?_) #[true, true, true, true, true, true, true, true, false, false, false] rfl rfl (by kernel_rfl) (fun _ _ _ h => h) (Or.inl ⟨by rfl, ?_⟩) hHeld ?_ ?_
          rotate_left
          · rintro w' s0
            go_simp
            with_reducible rfl
          rotate_left
          · simp only [Act.put, List.setIfInBounds_toArray, List.set_cons_zero, List.set_cons_succ, i64_w, i32_w]
            rfl
          refine take_ (i := 8) (N := some 105) (v := ?_) (a' := ?_) #[true, true, true, true, true, true, true, true, true, false, false] rfl rfl (by kernel_rfl) (fun _ _ _ h => h) (Or.inl ⟨by rfl, ?_⟩) hHeld ?_ ?_
          rotate_left
          · rintro w' s0
            go_simp
            with_reducible rfl
          rotate_left
          · simp only [Act.put, List.setIfInBounds_toArray, List.set_cons_zero, List.set_cons_succ, i64_w, i32_w]
            rfl
          refine take_ (i := 9) (N := some 106) (v := ?_) (a' := ?_) #[true, true, true, true, true, true, true, true, true, true, false] rfl rfl (by kernel_rfl) (fun _ _ _ h => h) (Or.inl ⟨by rfl, ?_⟩) hHeld ?_ ?_
          rotate_left
          · rintro w' s0
            go_simp
            with_reducible rfl
          rotate_left
          · simp only [Act.put, List.setIfInBounds_toArray, List.set_cons_zero, List.set_cons_succ, i64_w, i32_w]
            rfl
          refine last_ (i := 10) (N := none) #[true, true, true, true, true, true, true, true, true, true, true] rfl rfl (by kernel_rfl) (by decide) (fun K hK => ?_)
          refine skip_ (w1 := ?_) (by rfl) rfl ?_ ?_
          rotate_left
          · go_simp
            rfl
          refine hK.out _ _ ?_
          clear hK K
          refine done_ (by kernel_rfl) ?_
          go_wp2_with fail
          go_returns
          have hz := HZ.out
          rw [← HN.out] at hz
          subst hz
          refine ⟨rfl, bP, RP, rcP, HPL.out.1.fr0 (Fr.drew [] _), ?_, fun k hk => ?_⟩
          · exact (HAcc.out.1.grow ((FrP.ofFr HPL.out.2).mono (T' := Foot g bP RP LP) (fun k _ hk => by simp at hk; exact hk.elim .inl (fun e => .inr (.inl e)))) (fun k hk => (HAcc.out.2 k hk).imp .inl id)).trans ((FrP.ofFr (Fr.drew [] _)).mono (fun k _ hk => by simp at hk))
          · have hold : ∀ k, Foot g bP RP LP k → Foot g b R L k ∨ k = x.t ∨ (x.o.fs ≠ [] ∧ k = x.fb) ∨ w.heap.size ≤ k := fun k hk => (HAcc.out.2 k hk).elim .inl (fun e => .inr (.inr (.inr e)))
            rcases hk with hk | hk | hk | ⟨y, hy, hk⟩
            · exact hold k (.inl hk)
            · exact hold k (.inr (.inl hk))
            · exact hold k (.inr (.inr (.inl hk)))
            · rcases List.mem_append.1 hy with hy | hy
              · exact hold k (.inr (.inr (.inr ⟨y, hy, hk⟩)))
              · obtain rfl := List.mem_singleton.1 hy
                rcases hk with hk | ⟨hn, hk⟩
                · exact .inr (.inl hk)
                · exact .inr (.inr (.inl ⟨fun e => hn (List.length_eq_zero_iff.1 (by show fsP.length = 0; rw [HFL.out, e]; rfl)), hk⟩))
        · have hzz := HZ.out
          rw [if_neg (by decide), ← hhP, ← hLP] at hzz
          clear hhP hfsP hbP hRP hrcP hLP
          subst hwP
          go_wp2_with fail
          go_returns
          subst hzz
          exact ⟨rfl, bP, RP, rcP, HP.out, HAcc.out.1, fun k hk => (HAcc.out.2 k hk).elim .inl (fun e => .inr (.inr (.inr e)))⟩
      · simp only [Value.slice.injEq] at hv
        obtain ⟨rfl, -, rfl⟩ := hv
        rw [hlen2] at hncap htk
        have hrow7 : ∀ i, i < h.roots.length + x.o.fs.length → w7.cell? ⟨rb, i, none⟩ = some (.int .i64 (h2.roots.getD i 0)) := fun i hi => by
          obtain ⟨rb', e, hc, -⟩ := HW7.out.rootAt (i := i) (by rw [hlen2]; exact hi)
          have e : rb = rb' := by simpa using e
          subst e
          exact hc
        have hdl : (h2.roots.drop h.roots.length).length = x.o.fs.length := by rw [List.length_drop, hlen2]; omega
        obtain ⟨S0, hS0⟩ : ∃ S0 : Option Addr, S0 = if rc2 = h.roots.length then some ⟨rb, 0, none⟩ else some ⟨rb, h.roots.length, none⟩ := ⟨_, rfl⟩
        have HS0 := Aside0.mk hS0
        clear hS0
        obtain ⟨w8, hcp, hrw8, hf8⟩ := copy_words (w := w7.drew) (A := x.A) (S := S0) (c := x.c) (sc := rc2 - h.roots.length) (q := x.fb) (old := x.o.fs) (m := h2.roots.drop h.roots.length)
          (fun hne => (HR7.out (fun e => hne (List.length_eq_zero_iff.1 (by rw [hdl, e]; rfl)))).1) (fun hne => (HR7.out (fun e => hne (List.length_eq_zero_iff.1 (by rw [hdl, e]; rfl)))).2.fr (Fr.drew [] w7) (by simp)) hdl.symm
          (fun hne => ⟨⟨rb, h.roots.length, none⟩, HS0.out.trans (if_neg (fun e => hne (List.length_eq_zero_iff.1 (by rw [hdl]; omega)))), fun j hj => by
            have := hrow7 (h.roots.length + j) (by omega)
            rw [show (⟨rb, h.roots.length, none⟩ : Addr).add j = ⟨rb, h.roots.length + j, none⟩ from by unfold Addr.add; split <;> simp_all]
            show w7.cell? _ = _
            rw [this]
            simp [List.getD]⟩)
        rw [hdl] at hcp
        have hle : (h.roots.length : Int) ≤ (h.roots.length : Int) + (x.o.fs.length : Int) := by omega
        clear hrow7 hcur hcm hcs htk
        go_wp2_with fail
        have c2 : w7.drew.cell? ⟨g, 2, none⟩ = some (.slice (some ⟨rb, 0, none⟩) (h.roots.length + x.o.fs.length) rc2) := c2
        refine start_ (n := 11) (S := (fun w' => w'.cell? ⟨g, 2, none⟩ = some (.slice (some ⟨rb, 0, none⟩) (h.roots.length + x.o.fs.length) rc2) ∧ w'.cell? ⟨x.t, 1, none⟩ = some (.slice x.A x.o.fs.length x.c))) (ds := [10]) #[false, false, false, false, false, false, false, false, false, false, false] (by kernel_rfl) rfl rfl ⟨c2, o1⟩ (fun hHeld => ?_)
        refine take_ (i := 0) (N := some 57) (v := ?_) (a' := ?_) #[true, false, false, false, false, false, false, false, false, false, false] rfl rfl (by kernel_rfl) (fun _ _ _ h => h) (Or.inl ⟨by rfl, ?_⟩) hHeld ?_ ?_
        rotate_left
        · rintro w' ⟨s0, s1⟩
          go_simp
          with_reducible rfl
        rotate_left
        · simp only [Act.put, List.setIfInBounds_toArray, List.set_cons_zero, List.set_cons_succ, i64_w, i32_w]
          rfl
        refine take_ (i := 1) (N := some 58) (v := ?_) (a' := ?_) #[true, true, false, false, false, false, false, false, false, false, false] rfl rfl (by kernel_rfl) (fun _ _ _ h => h) (Or.inl ⟨by rfl, ?_⟩) hHeld ?_ ?_
        rotate_left
        · rintro w' ⟨s0, s1⟩
          go_simp
          with_reducible rfl
        rotate_left
        · simp only [Act.put, List.setIfInBounds_toArray, List.set_cons_zero, List.set_cons_succ, i64_w, i32_w]
          rfl
        refine take_ (i := 2) (N := some 59) (v := ?_) (a' := ?_) #[true, true, true, false, false, false, false, false, false, false, false] rfl rfl (by kernel_rfl) (fun _ _ _ h => h) (Or.inl ⟨by rfl, ?_⟩) hHeld ?_ ?_
        rotate_left
        · rintro w' ⟨s0, s1⟩
          go_simp
          with_reducible rfl
        rotate_left
        · simp only [Act.put, List.setIfInBounds_toArray, List.set_cons_zero, List.set_cons_succ, i64_w, i32_w]
          rfl
        refine take_ (i := 3) (N := some 60) (v := ?_) (a' := ?_) #[true, true, true, true, false, false, false, false, false, false, false] rfl rfl (by kernel_rfl) (fun _ _ _ h => h) (Or.inl ⟨by rfl, ?_⟩) hHeld ?_ ?_
        rotate_left
        · rintro w' ⟨s0, s1⟩
          go_simp
          with_reducible rfl
        rotate_left
        · simp only [Act.put, List.setIfInBounds_toArray, List.set_cons_zero, List.set_cons_succ, i64_w, i32_w]
          rfl
        refine take_ (i := 4) (N := some 61) (v := ?_) (a' := ?_) #[true, true, true, true, true, false, false, false, false, false, false] rfl rfl (by kernel_rfl) (fun _ _ _ h => h) (Or.inl ⟨by rfl, ?_⟩) hHeld ?_ ?_
        rotate_left
        · rintro w' ⟨s0, s1⟩
          go_simp
          with_reducible rfl
        rotate_left
        · simp only [Act.put, List.setIfInBounds_toArray, List.set_cons_zero, List.set_cons_succ, i64_w, i32_w]
          rfl
        refine take_ (i := 5) (N := some 62) (v := ?_) (a' := ?_) #[true, true, true, true, true, true, false, false, false, false, false] rfl rfl (by kernel_rfl) (fun _ _ _ h => h) (Or.inl ⟨by rfl, ?_⟩) hHeld ?_ ?_
        rotate_left
        · rintro w' ⟨s0, s1⟩
          go_simp
          with_reducible rfl
        rotate_left
        · simp only [Act.put, List.setIfInBounds_toArray, List.set_cons_zero, List.set_cons_succ, i64_w, i32_w]
          rfl
        refine take_ (i := 6) (N := some 63) (v := ?_) (a' := ?_) #[true, true, true, true, true, true, true, false, false, false, false] rfl rfl (by kernel_rfl) (fun _ _ _ h => h) (Or.inl ⟨by rfl, ?_⟩) hHeld ?_ ?_
        rotate_left
        · rintro w' ⟨s0, s1⟩
          go_simp
          with_reducible rfl
        rotate_left
        · simp only [Act.put, List.setIfInBounds_toArray, List.set_cons_zero, List.set_cons_succ, i64_w, i32_w]
          rfl
        refine take_ (i := 7) (N := some 64) (v := ?_) (a' := ?_) #[true, true, true, true, true, true, true, true, false, false, false] rfl rfl (by kernel_rfl) (fun _ _ _ h => h) (Or.inl ⟨by rfl, ?_⟩) hHeld ?_ ?_
        rotate_left
        · rintro w' ⟨s0, s1⟩
          go_simp
          with_reducible rfl
        rotate_left
        · simp only [Act.put, List.setIfInBounds_toArray, List.set_cons_zero, List.set_cons_succ, i64_w, i32_w]
          rfl
        refine take_ (i := 8) (N := some 65) (v := ?_) (a' := ?_) #[true, true, true, true, true, true, true, true, true, false, false] rfl rfl (by kernel_rfl) (fun _ _ _ h => h) (Or.inl ⟨by rfl, ?_⟩) hHeld ?_ ?_
        rotate_left
        · rintro w' ⟨s0, s1⟩
          go_simp
          with_reducible rfl
        rotate_left
        · simp only [Act.put, List.setIfInBounds_toArray, List.set_cons_zero, List.set_cons_succ, i64_w, i32_w]
          rfl
        refine take_ (i := 9) (N := some 66) (v := .slice S0 x.o.fs.length (rc2 - h.roots.length)) (a' := ?_) #[true, true, true, true, true, true, true, true, true, true, false] rfl rfl (by kernel_rfl) (fun _ _ _ h => h) (Or.inl ⟨by rfl, by rintro w' ⟨s0, s1⟩; go_simp; (try rw [HS0.out]); (try rw [if_pos hle])⟩) hHeld ?_ ?_
        rotate_left
        · simp only [Act.put, List.setIfInBounds_toArray, List.set_cons_zero, List.set_cons_succ, i64_w, i32_w]
          rfl
        refine last_ (i := 10) (N := some 67) #[true, true, true, true, true, true, true, true, true, true, true] rfl rfl (by kernel_rfl) (by decide) (fun K hK => ?_)
        refine step_copy rfl (.tmp 60) (.tmp 66) 33 33 rfl rfl _ _ _ _ rfl rfl hcp ?_
        refine hK.out _ _ ?_
        clear hK K
        refine norm_ (a' := ?_) ?_ ?_
        rotate_left
        · show Act.put _ (some 67) _ = _
          simp only [Act.put, List.setIfInBounds_toArray, List.set_cons_zero, List.set_cons_succ, i64_w, i32_w]
          rfl
        refine done_ (by kernel_rfl) ?_
        have HP8 := (HW7.out.fr0 (Fr.drew [] w7)).frp hf8 (fun k hk e => HT7.out.2 (fun h0 => e.1 (List.length_eq_zero_iff.1 (by rw [hdl, h0]; rfl))) (by rw [← e.2]; exact hk))
        have hx8 : w8.heap[x.t]? = some x.obj := hf8.get (show w7.drew.heap[x.t]? = some x.obj from HX7.out) (fun e => by
          have hne : x.o.fs ≠ [] := fun h0 => e.1 (List.length_eq_zero_iff.1 (by rw [hdl, h0]; rfl))
          obtain ⟨-, cur, h3, -⟩ := HR7.out hne
          rw [← e.2, HX7.out] at h3
          simp [OW.obj] at h3)
        obtain ⟨fsP, hfsP⟩ : ∃ fsP, fsP = h2.roots.drop h.roots.length := ⟨_, rfl⟩
        obtain ⟨hP, hhP⟩ : ∃ hP : HH, hP = { h2 with roots := h2.roots.take h.roots.length } := ⟨_, rfl⟩
        have hpop := HP8.popped (n := h.roots.length) (by rw [hlen2]; omega)
        rw [← hhP] at hpop
        rw [← hfsP] at hdl hrw8
        have c28 : w8.cell? ⟨g, 2, none⟩ = some (.slice (some ⟨rb, 0, none⟩) (h.roots.length + x.o.fs.length) rc2) := by rw [← hlen2]; exact HP8.c2
        have f28 : w8.frozen? ⟨g, 2, none⟩ = false := HP8.fz 2
        obtain ⟨wP, hwP⟩ : ∃ wP, wP = w8.setCell ⟨g, 2, none⟩ (.slice (some ⟨rb, 0, none⟩) h.roots.length rc2) := ⟨_, rfl⟩
        rw [← hwP] at hpop
        have fP : Fr [g] w8 wP := by rw [hwP]; exact Fr.set w8 g 2 _
        have hxg : x.t ≠ g := fun e => HT.out (.inl e)
        obtain ⟨bP, hbP⟩ : ∃ bP, bP = b2 := ⟨_, rfl⟩
        obtain ⟨RP, hRP⟩ : ∃ RP : Option Addr, RP = some ⟨rb, 0, none⟩ := ⟨_, rfl⟩
        obtain ⟨rcP, hrcP⟩ : ∃ rcP, rcP = rc2 := ⟨_, rfl⟩
        obtain ⟨LP, hLP⟩ : ∃ LP, LP = L2 := ⟨_, rfl⟩
        have HP := Aside0.mk (show HW wP g bP 0 RP rcP LP hP by rw [hbP, hRP, hrcP, hLP]; exact hpop)
        have HFL := Aside0.mk (show fsP.length = x.o.fs.length from hdl)
        have HXP := Aside0.mk (show wP.heap[x.t]? = some ({ x with o := { x.o with fs := fsP } } : OW).obj by
          rw [fP.get hx8 (by simpa using hxg)]
          simp [OW.obj, HFL.out])
        have HRP := Aside0.mk (show ({ x with o := { x.o with fs := fsP } } : OW).rowOk wP from fun hne => by
          have hne' : fsP ≠ [] := hne
          have hne2 : x.o.fs ≠ [] := fun h0 => hne' (List.length_eq_zero_iff.1 (by rw [HFL.out, h0]; rfl))
          exact ⟨(HR7.out hne2).1, (hrw8 hne').fr fP (by have : x.fb ≠ g := fun e => HF.out hne2 (.inl e); simpa using this)⟩)
        have HTP := Aside0.mk (show ¬ Foot g bP RP LP x.t by rw [hbP, hRP, hLP]; exact HT7.out.1)
        have HFP := Aside0.mk (show fsP ≠ [] → ¬ Foot g bP RP LP x.fb by
          rw [hbP, hRP, hLP]
          exact fun hne => HT7.out.2 (fun h0 => hne (List.length_eq_zero_iff.1 (by rw [HFL.out, h0]; rfl))))
        have HAcc := Aside0.mk (show FrP (fun k => Foot g b R L k ∨ k = x.t ∨ (x.o.fs ≠ [] ∧ k = x.fb)) w wP ∧ ∀ k, Foot g bP RP LP k → Foot g b R L k ∨ w.heap.size ≤ k by
          rw [hbP, hRP, hLP]
          have f1 : FrP (fun k => Foot g b R L k ∨ k = x.t ∨ (x.o.fs ≠ [] ∧ k = x.fb)) w w7 := HAc.out.1.mono (fun k _ hk => .inl hk)
          have f2 : FrP (fun k => Foot g b R L k ∨ k = x.t ∨ (x.o.fs ≠ [] ∧ k = x.fb)) w7 w7.drew := (FrP.ofFr (Fr.drew [] w7)).mono (fun k _ hk => by simp at hk)
          have f3 : FrP (fun k => Foot g b R L k ∨ k = x.t ∨ (x.o.fs ≠ [] ∧ k = x.fb)) w7.drew w8 := hf8.mono (fun k _ hk => .inr (.inr ⟨fun h0 => hk.1 (List.length_eq_zero_iff.1 (by rw [← hfsP, HFL.out, h0]; rfl)), hk.2⟩))
          have f4 : FrP (fun k => Foot g b R L k ∨ k = x.t ∨ (x.o.fs ≠ [] ∧ k = x.fb)) w8 wP := (FrP.ofFr fP).mono (fun k _ hk => .inl (.inl (by simpa using hk)))
          exact ⟨((f1.trans f2).trans f3).trans f4, HAc.out.2⟩)
        have HNBq := HNB
        have HNB := Aside0.mk (show 0 < hP.nx ∧ hP.nx % 2 = 0 ∧ hP.nx ≤ 900000000000 ∧ 0 ≤ hP.has0 ∧ hP.has0 ≤ 1000000000 by
          have h1 := HNBq.out
          rw [hhP]
          show 0 < h2.nx ∧ h2.nx % 2 = 0 ∧ h2.nx ≤ 900000000000 ∧ 0 ≤ h2.has0 ∧ h2.has0 ≤ 1000000000
          omega)
        have hn0rc : h.roots.length ≤ rc2 := by omega
        rcases herr with rfl | rfl
        · have hzz : z = (hP.nx, 0, LP ++ [{ x with k := hP.nx, o := { x.o with fs := fsP } }], { hP with nx := hP.nx + 2, has0 := hP.has0 + x.o.cells }) := by rw [HZ.out, if_pos rfl, hfsP, hhP, hLP]
          have HZq := Aside0.mk hzz
          clear HZ
          have HZ := HZq
          clear hpop HZq HNBq hhP hfsP hbP hRP hrcP hLP hzz
          -- put: HP, HXP (its block), HRP (its row), HTP, HFP (apart), HAcc (all else), HZ
          have c0 := HP.out.c0
          have c1 := HP.out.c1
          have f1 := HP.out.fz 1
          have hgb := HP.out.ne_gb
          obtain ⟨w2, hu, hm, hb⟩ := map_update (P := Try.prog) Try.underlying63 Try.underlying28 (HP.out.mp.fr (Fr.set wP g 1 (.int .i64 (hP.nx + 2))) (by simpa using hgb.symm)) hP.nx (ptr x.t)
          unfold ptr at hu
          have hp2 : w2.heap[g]? = some (hhObj bP RP rcP { hP with nx := hP.nx + 2 }) := (hb.block g hgb).trans (blk_put HP.out.hp 1 _ rfl)
          have c0' : (wP.setCell ⟨g, 1, none⟩ (.int .i64 (hP.nx + 2))).cell? ⟨g, 0, none⟩ = some (.map (some bP)) := (blk_cell (blk_put HP.out.hp 1 (.int .i64 (hP.nx + 2)) rfl : (wP.setCell ⟨g, 1, none⟩ (.int .i64 (hP.nx + 2))).heap[g]? = some (hhObj bP RP rcP { hP with nx := hP.nx + 2 })) 0).trans rfl
          have c5 : w2.cell? ⟨g, 5, none⟩ = some (.int .i64 hP.has0) := (blk_cell hp2 5).trans rfl
          have f5 : w2.frozen? ⟨g, 5, none⟩ = false := blk_frozen hp2 5
          have hnb := HNB.out
          have e1 : IntKind.i64.wrap (hP.nx + 2) = hP.nx + 2 := by rw [IntKind.wrap_i64]; omega
          have e2 : IntKind.i64.wrap (hP.has0 + n) = hP.has0 + n := by rw [IntKind.wrap_i64]; omega
          have hpl := HP.out.placed (w2 := w2) { x with o := { x.o with fs := fsP } } HXP.out HRP.out HTP.out HFP.out (hP.has0 + n) ⟨hnb.1, hnb.2.1⟩ rfl hm hb rfl
          have HPL := Aside0.mk hpl
          clear hm hb hp2 hgb hpl hnb
          subst hwP
          go_wp2_with fail
          refine start_ (n := 11) (S := (fun w' => w'.cell? ⟨g, 5, none⟩ = some (.int .i64 hP.has0))) (ds := [10]) #[false, false, false, false, false, false, false, false, false, false, false] (by kernel_rfl) rfl rfl c5 (fun hHeld => ?_)
          refine take_ (i := 0) (N := some 97) (v := ?_) (a' := ?_) #[true, false, false, false, false, false, false, false, false, false, false] rfl rfl (by kernel_rfl) (fun _ _ _ h => h) (Or.inl ⟨by rfl, ?_⟩) hHeld ?_ ?_
          rotate_left
          · rintro w' s0
            go_simp
            with_reducible rfl
          rotate_left
          · simp only [Act.put, List.setIfInBounds_toArray, List.set_cons_zero, List.set_cons_succ, i64_w, i32_w]
            rfl
          refine take_ (i := 1) (N := some 98) (v := ?_) (a' := ?_) #[true, true, false, false, false, false, false, false, false, false, false] rfl rfl (by kernel_rfl) (fun _ _ _ h => h) (Or.inl ⟨by rfl, ?_⟩) hHeld ?_ ?_
          rotate_left
          · rintro w' s0
            go_simp
            with_reducible rfl
          rotate_left
          · simp only [Act.put, List.setIfInBounds_toArray, List.set_cons_zero, List.set_cons_succ, i64_w, i32_w]
            rfl
          refine take_ (i := 2) (N := some 99) (v := ?_) (a' := ?_) #[true, true, true, false, false, false, false, false, false, false, false] rfl rfl (by kernel_rfl) (fun _ _ _ h => h) (Or.inl ⟨by rfl, ?_⟩) hHeld ?_ ?_
          rotate_left
          · rintro w' s0
            go_simp
            with_reducible rfl
          rotate_left
          · simp only [Act.put, List.setIfInBounds_toArray, List.set_cons_zero, List.set_cons_succ, i64_w, i32_w]
            rfl
          refine take_ (i := 3) (N := some 100) (v := ?_) (a' := ?_) #[true, true, true, true, false, false, false, false, false, false, false] rfl rfl (by kernel_rfl) (fun _ _ _ h => h) (Or.inl ⟨by rfl, ?_⟩) hHeld ?_ ?_
          rotate_left
          · rintro w' s0
            go_simp
            with_reducible rfl
          rotate_left
          · simp only [Act.put, List.setIfInBounds_toArray, List.set_cons_zero, List.set_cons_succ, i64_w, i32_w]
            rfl
          refine take_ (i := 4) (N := some 101) (v := ?_) (a' := ?_) #[true, true, true, true, true, false, false, false, false, false, false] rfl rfl (by kernel_rfl) (fun _ _ _ h => h) (Or.inl ⟨by rfl, ?_⟩) hHeld ?_ ?_
          rotate_left
          · rintro w' s0
            go_simp
            with_reducible rfl
          rotate_left
          · simp only [Act.put, List.setIfInBounds_toArray, List.set_cons_zero, List.set_cons_succ, i64_w, i32_w]
            rfl
          refine take_ (i := 5) (N := some 102) (v := ?_) (a' := ?_) #[true, true, true, true, true, true, false, false, false, false, false] rfl rfl (by kernel_rfl) (fun _ _ _ h => h) (Or.inl ⟨by rfl, ?_⟩) hHeld ?_ ?_
          rotate_left
          · rintro w' s0
            go_simp
            with_reducible rfl
          rotate_left
          · simp only [Act.put, List.setIfInBounds_toArray, List.set_cons_zero, List.set_cons_succ, i64_w, i32_w]
            rfl
          refine take_ (i := 6) (N := some 103) (v := ?_) (a' := ?_) #[true, true, true, true, true, true, true, false, false, false, false] rfl rfl (by kernel_rfl) (fun _ _ _ h => h) (Or.inl ⟨by rfl, ?_⟩) hHeld ?_ ?_
          rotate_left
          · rintro w' s0
            go_simp
            with_reducible rfl
          rotate_left
          · simp only [Act.put, List.setIfInBounds_toArray, List.set_cons_zero, List.set_cons_succ, i64_w, i32_w]
            rfl
          refine take_ (i := 7) (N := some 104) (v := ?_) (a' := ?_) #[true, true, true, true, true, true, true, true, false, false, false] rfl rfl (by kernel_rfl) (fun _ _ _ h => h) (Or.inl ⟨by rfl, ?_⟩) hHeld ?_ ?_
          rotate_left
          · rintro w' s0
            go_simp
            with_reducible rfl
          rotate_left
          · simp only [Act.put, List.setIfInBounds_toArray, List.set_cons_zero, List.set_cons_succ, i64_w, i32_w]
            rfl
          refine take_ (i := 8) (N := some 105) (v := ?_) (a' := ?_) #[true, true, true, true, true, true, true, true, true, false, false] rfl rfl (by kernel_rfl) (fun _ _ _ h => h) (Or.inl ⟨by rfl, ?_⟩) hHeld ?_ ?_
          rotate_left
          · rintro w' s0
            go_simp
            with_reducible rfl
          rotate_left
          · simp only [Act.put, List.setIfInBounds_toArray, List.set_cons_zero, List.set_cons_succ, i64_w, i32_w]
            rfl
          refine take_ (i := 9) (N := some 106) (v := ?_) (a' := ?_) #[true, true, true, true, true, true, true, true, true, true, false] rfl rfl (by kernel_rfl) (fun _ _ _ h => h) (Or.inl ⟨by rfl, ?_⟩) hHeld ?_ ?_
          rotate_left
          · rintro w' s0
            go_simp
            with_reducible rfl
          rotate_left
          · simp only [Act.put, List.setIfInBounds_toArray, List.set_cons_zero, List.set_cons_succ, i64_w, i32_w]
            rfl
          refine last_ (i := 10) (N := none) #[true, true, true, true, true, true, true, true, true, true, true] rfl rfl (by kernel_rfl) (by decide) (fun K hK => ?_)
          refine skip_ (w1 := ?_) (by rfl) rfl ?_ ?_
          rotate_left
          · go_simp
            rfl
          refine hK.out _ _ ?_
          clear hK K
          refine done_ (by kernel_rfl) ?_
          go_wp2_with fail
          go_returns
          have hz := HZ.out
          rw [← HN.out] at hz
          subst hz
          refine ⟨rfl, bP, RP, rcP, HPL.out.1.fr0 (Fr.drew [] _), ?_, fun k hk => ?_⟩
          · exact (HAcc.out.1.grow ((FrP.ofFr HPL.out.2).mono (T' := Foot g bP RP LP) (fun k _ hk => by simp at hk; exact hk.elim .inl (fun e => .inr (.inl e)))) (fun k hk => (HAcc.out.2 k hk).imp .inl id)).trans ((FrP.ofFr (Fr.drew [] _)).mono (fun k _ hk => by simp at hk))
          · have hold : ∀ k, Foot g bP RP LP k → Foot g b R L k ∨ k = x.t ∨ (x.o.fs ≠ [] ∧ k = x.fb) ∨ w.heap.size ≤ k := fun k hk => (HAcc.out.2 k hk).elim .inl (fun e => .inr (.inr (.inr e)))
            rcases hk with hk | hk | hk | ⟨y, hy, hk⟩
            · exact hold k (.inl hk)
            · exact hold k (.inr (.inl hk))
            · exact hold k (.inr (.inr (.inl hk)))
            · rcases List.mem_append.1 hy with hy | hy
              · exact hold k (.inr (.inr (.inr ⟨y, hy, hk⟩)))
              · obtain rfl := List.mem_singleton.1 hy
                rcases hk with hk | ⟨hn, hk⟩
                · exact .inr (.inl hk)
                · exact .inr (.inr (.inl ⟨fun e => hn (List.length_eq_zero_iff.1 (by show fsP.length = 0; rw [HFL.out, e]; rfl)), hk⟩))
        · have hzz := HZ.out
          rw [if_neg (by decide), ← hhP, ← hLP] at hzz
          clear hhP hfsP hbP hRP hrcP hLP
          subst hwP
          go_wp2_with fail
          go_returns
          subst hzz
          exact ⟨rfl, bP, RP, rcP, HP.out, HAcc.out.1, fun k hk => (HAcc.out.2 k hk).elim .inl (fun e => .inr (.inr (.inr e)))⟩
    · have hfb : decide (h.room0 < h.has0 + n) = false := decide_eq_false hfull
      have hroom : roomF L h x.o = (0, L, h, x.o.fs) := by
        unfold roomF
        rw [← HN.out, if_neg HNO.out, if_neg hfull]
      have hz2 : z = (h.nx, 0, L ++ [{ x with k := h.nx, o := { x.o with fs := x.o.fs } }], { h with nx := h.nx + 2, has0 := h.has0 + x.o.cells }) := by
        rw [HZ0.out]; unfold plO; rw [hroom]; rfl
      have HZ := Aside0.mk hz2
      obtain ⟨fsP, hfsP⟩ : ∃ fsP, fsP = x.o.fs := ⟨_, rfl⟩
      rw [← hfsP] at HZ
      obtain ⟨hP, hhP⟩ : ∃ hP : HH, hP = h := ⟨_, rfl⟩
      obtain ⟨wP, hwP⟩ : ∃ wP, wP = W := ⟨_, rfl⟩
      obtain ⟨bP, hbP⟩ : ∃ bP, bP = b := ⟨_, rfl⟩
      obtain ⟨RP, hRP⟩ : ∃ RP, RP = R := ⟨_, rfl⟩
      obtain ⟨rcP, hrcP⟩ : ∃ rcP, rcP = rc := ⟨_, rfl⟩
      obtain ⟨LP, hLP⟩ : ∃ LP, LP = L := ⟨_, rfl⟩
      have HP := Aside0.mk (show HW wP g bP 0 RP rcP LP hP by rw [hwP, hbP, hRP, hrcP, hLP, hhP]; exact H2.out)
      have HFL := Aside0.mk (show fsP.length = x.o.fs.length by rw [hfsP])
      have HXP := Aside0.mk (show wP.heap[x.t]? = some ({ x with o := { x.o with fs := fsP } } : OW).obj by rw [hwP, hfsP]; exact HX2.out)
      have HRP := Aside0.mk (show ({ x with o := { x.o with fs := fsP } } : OW).rowOk wP by rw [hwP, hfsP]; exact HR2.out)
      have HTP := Aside0.mk (show ¬ Foot g bP RP LP x.t by rw [hbP, hRP, hLP]; exact HT.out)
      have HFP := Aside0.mk (show fsP ≠ [] → ¬ Foot g bP RP LP x.fb by rw [hbP, hRP, hLP, hfsP]; exact HF.out)
      have HAcc := Aside0.mk (show FrP (fun k => Foot g b R L k ∨ k = x.t ∨ (x.o.fs ≠ [] ∧ k = x.fb)) w wP ∧ ∀ k, Foot g bP RP LP k → Foot g b R L k ∨ w.heap.size ≤ k by
        rw [hwP, hbP, hRP, hLP]
        exact ⟨(FrP.ofFr HF2.out).mono (fun k _ hk => by simp at hk), fun k hk => .inl hk⟩)
      have HNB := Aside0.mk (show 0 < hP.nx ∧ hP.nx % 2 = 0 ∧ hP.nx ≤ 900000000000 ∧ 0 ≤ hP.has0 ∧ hP.has0 ≤ 1000000000 by
        have h1 := HSm.out.nx
        rw [hhP]
        omega)
      rw [← hhP, ← hLP] at HZ
      have hfb : decide (h.room0 < h.has0 + n) = false := hfb
      clear hroom hz2 hhP hbP hRP hrcP hLP hfsP
      -- put: HP, HXP (its block), HRP (its row), HTP, HFP (apart), HAcc (all else), HZ
      have c0 := HP.out.c0
      have c1 := HP.out.c1
      have f1 := HP.out.fz 1
      have hgb := HP.out.ne_gb
      obtain ⟨w2, hu, hm, hb⟩ := map_update (P := Try.prog) Try.underlying63 Try.underlying28 (HP.out.mp.fr (Fr.set wP g 1 (.int .i64 (hP.nx + 2))) (by simpa using hgb.symm)) hP.nx (ptr x.t)
      unfold ptr at hu
      have hp2 : w2.heap[g]? = some (hhObj bP RP rcP { hP with nx := hP.nx + 2 }) := (hb.block g hgb).trans (blk_put HP.out.hp 1 _ rfl)
      have c0' : (wP.setCell ⟨g, 1, none⟩ (.int .i64 (hP.nx + 2))).cell? ⟨g, 0, none⟩ = some (.map (some bP)) := (blk_cell (blk_put HP.out.hp 1 (.int .i64 (hP.nx + 2)) rfl : (wP.setCell ⟨g, 1, none⟩ (.int .i64 (hP.nx + 2))).heap[g]? = some (hhObj bP RP rcP { hP with nx := hP.nx + 2 })) 0).trans rfl
      have c5 : w2.cell? ⟨g, 5, none⟩ = some (.int .i64 hP.has0) := (blk_cell hp2 5).trans rfl
      have f5 : w2.frozen? ⟨g, 5, none⟩ = false := blk_frozen hp2 5
      have hnb := HNB.out
      have e1 : IntKind.i64.wrap (hP.nx + 2) = hP.nx + 2 := by rw [IntKind.wrap_i64]; omega
      have e2 : IntKind.i64.wrap (hP.has0 + n) = hP.has0 + n := by rw [IntKind.wrap_i64]; omega
      have hpl := HP.out.placed (w2 := w2) { x with o := { x.o with fs := fsP } } HXP.out HRP.out HTP.out HFP.out (hP.has0 + n) ⟨hnb.1, hnb.2.1⟩ rfl hm hb rfl
      have HPL := Aside0.mk hpl
      clear hm hb hp2 hgb hpl hnb
      subst hwP
      go_wp2_with fail
      refine start_ (n := 11) (S := (fun w' => w'.cell? ⟨g, 5, none⟩ = some (.int .i64 hP.has0))) (ds := [10]) #[false, false, false, false, false, false, false, false, false, false, false] (by kernel_rfl) rfl rfl c5 (fun hHeld => ?_)
      refine take_ (i := 0) (N := some 97) (v := ?_) (a' := ?_) #[true, false, false, false, false, false, false, false, false, false, false] rfl rfl (by kernel_rfl) (fun _ _ _ h => h) (Or.inl ⟨by rfl, ?_⟩) hHeld ?_ ?_
      rotate_left
      · rintro w' s0
        go_simp
        with_reducible rfl
      rotate_left
      · simp only [Act.put, List.setIfInBounds_toArray, List.set_cons_zero, List.set_cons_succ, i64_w, i32_w]
        rfl
      refine take_ (i := 1) (N := some 98) (v := ?_) (a' := ?_) #[true, true, false, false, false, false, false, false, false, false, false] rfl rfl (by kernel_rfl) (fun _ _ _ h => h) (Or.inl ⟨by rfl, ?_⟩) hHeld ?_ ?_
      rotate_left
      · rintro w' s0
        go_simp
        with_reducible rfl
      rotate_left
      · simp only [Act.put, List.setIfInBounds_toArray, List.set_cons_zero, List.set_cons_succ, i64_w, i32_w]
        rfl
      refine take_ (i := 2) (N := some 99) (v := ?_) (a' := ?_) #[true, true, true, false, false, false, false, false, false, false, false] rfl rfl (by kernel_rfl) (fun _ _ _ h => h) (Or.inl ⟨by rfl, ?_⟩) hHeld ?_ ?_
      rotate_left
      · rintro w' s0
        go_simp
        with_reducible rfl
      rotate_left
      · simp only [Act.put, List.setIfInBounds_toArray, List.set_cons_zero, List.set_cons_succ, i64_w, i32_w]
        rfl
      refine take_ (i := 3) (N := some 100) (v := ?_) (a' := ?_) #[true, true, true, true, false, false, false, false, false, false, false] rfl rfl (by kernel_rfl) (fun _ _ _ h => h) (Or.inl ⟨by rfl, ?_⟩) hHeld ?_ ?_
      rotate_left
      · rintro w' s0
        go_simp
        with_reducible rfl
      rotate_left
      · simp only [Act.put, List.setIfInBounds_toArray, List.set_cons_zero, List.set_cons_succ, i64_w, i32_w]
        rfl
      refine take_ (i := 4) (N := some 101) (v := ?_) (a' := ?_) #[true, true, true, true, true, false, false, false, false, false, false] rfl rfl (by kernel_rfl) (fun _ _ _ h => h) (Or.inl ⟨by rfl, ?_⟩) hHeld ?_ ?_
      rotate_left
      · rintro w' s0
        go_simp
        with_reducible rfl
      rotate_left
      · simp only [Act.put, List.setIfInBounds_toArray, List.set_cons_zero, List.set_cons_succ, i64_w, i32_w]
        rfl
      refine take_ (i := 5) (N := some 102) (v := ?_) (a' := ?_) #[true, true, true, true, true, true, false, false, false, false, false] rfl rfl (by kernel_rfl) (fun _ _ _ h => h) (Or.inl ⟨by rfl, ?_⟩) hHeld ?_ ?_
      rotate_left
      · rintro w' s0
        go_simp
        with_reducible rfl
      rotate_left
      · simp only [Act.put, List.setIfInBounds_toArray, List.set_cons_zero, List.set_cons_succ, i64_w, i32_w]
        rfl
      refine take_ (i := 6) (N := some 103) (v := ?_) (a' := ?_) #[true, true, true, true, true, true, true, false, false, false, false] rfl rfl (by kernel_rfl) (fun _ _ _ h => h) (Or.inl ⟨by rfl, ?_⟩) hHeld ?_ ?_
      rotate_left
      · rintro w' s0
        go_simp
        with_reducible rfl
      rotate_left
      · simp only [Act.put, List.setIfInBounds_toArray, List.set_cons_zero, List.set_cons_succ, i64_w, i32_w]
        rfl
      refine take_ (i := 7) (N := some 104) (v := ?_) (a' := ?_) #[true, true, true, true, true, true, true, true, false, false, false] rfl rfl (by kernel_rfl) (fun _ _ _ h => h) (Or.inl ⟨by rfl, ?_⟩) hHeld ?_ ?_
      rotate_left
      · rintro w' s0
        go_simp
        with_reducible rfl
      rotate_left
      · simp only [Act.put, List.setIfInBounds_toArray, List.set_cons_zero, List.set_cons_succ, i64_w, i32_w]
        rfl
      refine take_ (i := 8) (N := some 105) (v := ?_) (a' := ?_) #[true, true, true, true, true, true, true, true, true, false, false] rfl rfl (by kernel_rfl) (fun _ _ _ h => h) (Or.inl ⟨by rfl, ?_⟩) hHeld ?_ ?_
      rotate_left
      · rintro w' s0
        go_simp
        with_reducible rfl
      rotate_left
      · simp only [Act.put, List.setIfInBounds_toArray, List.set_cons_zero, List.set_cons_succ, i64_w, i32_w]
        rfl
      refine take_ (i := 9) (N := some 106) (v := ?_) (a' := ?_) #[true, true, true, true, true, true, true, true, true, true, false] rfl rfl (by kernel_rfl) (fun _ _ _ h => h) (Or.inl ⟨by rfl, ?_⟩) hHeld ?_ ?_
      rotate_left
      · rintro w' s0
        go_simp
        with_reducible rfl
      rotate_left
      · simp only [Act.put, List.setIfInBounds_toArray, List.set_cons_zero, List.set_cons_succ, i64_w, i32_w]
        rfl
      refine last_ (i := 10) (N := none) #[true, true, true, true, true, true, true, true, true, true, true] rfl rfl (by kernel_rfl) (by decide) (fun K hK => ?_)
      refine skip_ (w1 := ?_) (by rfl) rfl ?_ ?_
      rotate_left
      · go_simp
        rfl
      refine hK.out _ _ ?_
      clear hK K
      refine done_ (by kernel_rfl) ?_
      go_wp2_with fail
      go_returns
      have hz := HZ.out
      rw [← HN.out] at hz
      subst hz
      refine ⟨rfl, bP, RP, rcP, HPL.out.1.fr0 (Fr.drew [] _), ?_, fun k hk => ?_⟩
      · exact (HAcc.out.1.grow ((FrP.ofFr HPL.out.2).mono (T' := Foot g bP RP LP) (fun k _ hk => by simp at hk; exact hk.elim .inl (fun e => .inr (.inl e)))) (fun k hk => (HAcc.out.2 k hk).imp .inl id)).trans ((FrP.ofFr (Fr.drew [] _)).mono (fun k _ hk => by simp at hk))
      · have hold : ∀ k, Foot g bP RP LP k → Foot g b R L k ∨ k = x.t ∨ (x.o.fs ≠ [] ∧ k = x.fb) ∨ w.heap.size ≤ k := fun k hk => (HAcc.out.2 k hk).elim .inl (fun e => .inr (.inr (.inr e)))
        rcases hk with hk | hk | hk | ⟨y, hy, hk⟩
        · exact hold k (.inl hk)
        · exact hold k (.inr (.inl hk))
        · exact hold k (.inr (.inr (.inl hk)))
        · rcases List.mem_append.1 hy with hy | hy
          · exact hold k (.inr (.inr (.inr ⟨y, hy, hk⟩)))
          · obtain rfl := List.mem_singleton.1 hy
            rcases hk with hk | ⟨hn, hk⟩
            · exact .inr (.inl hk)
            · exact .inr (.inr (.inl ⟨fun e => hn (List.length_eq_zero_iff.1 (by show fsP.length = 0; rw [HFL.out, e]; rfl)), hk⟩))
end Go.Proofs.Ytlghnldlkbgajaa.S
