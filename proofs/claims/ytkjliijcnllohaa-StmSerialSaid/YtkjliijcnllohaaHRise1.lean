/- stm: rising, and the lists that Slots, Writes and Reads make. -/
import Derived.Test.YtkjliijcnllohaaHRise0
namespace Go.Proofs.Ytkjliijcnllohaa.S
open Go.RowKit Go.Proofs.YtkjliijcnllohaaW.PrintWords Go.Proofs.YtkjliijcnllohaaW.PrintLast Go.Proofs.YtkjliijcnllohaaW.PrintMore
set_option linter.unusedVariables false
set_option linter.unusedSimpArgs false
theorem wp_append_v {P : Program} {w : World} {o : Oper} {a : Act} {K : Act → World → Prop} {Q : Exit → Act → World → Prop} (s x : Operand) (t : TypeId)
    (ho : o.op = .call { callee := .builtin .append, args := #[s, x], argTypes := #[t, t] }) (v u v' : Value) (w' : World) (hs : a.eval s = v) (hx : a.eval x = u) (hr : ∀ ty, (Builtin.append_ #[t, t] ty #[v, u]).run P w = .ok v' w') (h : K (a.put o.dst v') w') : o.wp P a w K Q := by
  unfold Oper.wp execOp
  simp only [ho, resolve, invoke, builtin, Sem.run_bind, Sem.run_pure, Result.andThen_ok, List.map_toArray, List.map_cons, List.map_nil, hs, hx, hr]
  exact h
theorem Reads.drew {w : World} {v : Value} {xs : List Int} (h : Reads w v xs) : Reads w.drew v xs := h
theorem LAt.drew {w : World} {B g0 : Nat} {v : Value} {L : List SA} (h : LAt w B g0 v L) : LAt w.drew B g0 v L := ⟨h.lo, h.cell, h.own, h.rows⟩
set_option maxRecDepth 100000 in
set_option maxHeartbeats 1000000 in
/-- What Writes does with one name. -/
theorem wr1_calls {W : World} {B g0 : Nat} {v bv : Value} {L : List SA} {name : ByteArray} {bs : List Int} (H : LAt W B g0 v L) (hB : B ≤ W.heap.size) (hr : Reads W bv bs) (hlen : L.length < 1000000000) :
    Calls Try.prog 44 #[.string name, bv, ptr g0] W fun e w' => e = .returned (.tuple #[]) ∧ ∃ v' bv', LAt w' B g0 v' (L ++ [⟨name, 0, bv', bs⟩]) ∧ Fs B W w' := by
  obtain ⟨A, c, rfl⟩ := H.form
  obtain ⟨A0, n0, c0, rfl⟩ := hr.form
  have c0d : W.drew.cell? ⟨g0, 0, none⟩ = some (.slice A L.length c) := (blk_cell H.cell 0).trans rfl
  have HC := Aside0.mk (clone_calls hr.drew)
  have HL := Aside0.mk H
  have HLn := Aside0.mk hlen
  have HBB := Aside0.mk hB
  obtain ⟨n, hn⟩ : ∃ n, n = L.length := ⟨_, rfl⟩
  rw [← hn] at c0d
  have HN := Aside0.mk hn
  unfold ptr
  clear H hB hr hlen hn
  go_enter Try.func44, Try.ntmps44
  go_wp2_with fail
  refine start_ (n := 8) (S := (fun w' => w'.cell? ⟨g0, 0, none⟩ = some (.slice A n c))) (ds := [7]) #[false, false, false, false, false, false, false, false] (by kernel_rfl) rfl rfl c0d (fun hHeld => ?_)
  refine take_ (i := 0) (N := some 5) (v := ?_) (a' := ?_) #[true, false, false, false, false, false, false, false] rfl rfl (by kernel_rfl) (fun _ _ _ h => h) (Or.inl ⟨by rfl, ?_⟩) hHeld ?_ ?_
  rotate_left
  · rintro w' s0
    go_simp
    with_reducible rfl
  rotate_left
  · simp only [Act.put, List.setIfInBounds_toArray, List.set_cons_zero, List.set_cons_succ, i64_w, i32_w]
    rfl
  refine pure_ (i := 1) (N := some 6) (v := ?_) (a' := ?_) #[true, true, false, false, false, false, false, false] rfl rfl (by kernel_rfl) (fun _ _ _ h => h) (Or.inl ⟨by rfl, ?_⟩) ?_ ?_
  rotate_left
  · intro w'
    go_simp
    with_reducible rfl
  rotate_left
  · simp only [Act.put, List.setIfInBounds_toArray, List.set_cons_zero, List.set_cons_succ, i64_w, i32_w]
    rfl
  refine pure_ (i := 2) (N := some 7) (v := ?_) (a' := ?_) #[true, true, true, false, false, false, false, false] rfl rfl (by kernel_rfl) (fun _ _ _ h => h) (Or.inl ⟨by rfl, ?_⟩) ?_ ?_
  rotate_left
  · intro w'
    go_simp
    with_reducible rfl
  rotate_left
  · simp only [Act.put, List.setIfInBounds_toArray, List.set_cons_zero, List.set_cons_succ, i64_w, i32_w]
    rfl
  refine one_ (i := 3) (N := some 8) #[true, true, true, true, false, false, false, false] rfl rfl (by kernel_rfl) (by decide) (fun KK hK => ?_)
  refine goes_ Try.func35 (by kernel_rfl) rfl #[.slice A0 n0 c0] (by rfl) rfl rfl (by simp only [List.map_toArray, List.map_cons, List.map_nil]; rfl) ?_
  refine HC.out.mono ?_
  rintro e w9 ⟨bv, rfl, hra, hbl⟩
  obtain ⟨A1, n1, c1, rfl⟩ := hra.form
  obtain ⟨A2, c2, w2, hrun, hc2, hl2, hf2⟩ := (HL.out.drew.same hbl).push ⟨name, 0, .slice A1 n1 c1, bs⟩ hra HLn.out (Nat.le_trans HBB.out hbl.size)
  have hc9 : w9.cell? ⟨g0, 0, none⟩ = some (.slice A n c) := (hbl.cell (p := ⟨g0, 0, none⟩) (World.block_lt_of_cell? W.drew _ c0d)).trans c0d
  have hc9a : (w9.alloc (.cells #[.string name, .int .i64 0, .slice A1 n1 c1] 28)).cell? ⟨g0, 0, none⟩ = some (.slice A n c) := Lib.cell?_alloc_some _ hc9
  simp only [← HN.out] at hrun hc2 hl2 hf2
  refine ⟨_, rfl, ?_⟩
  refine hK.out _ _ hc9 (fun hHeld => ?_)
  clear hK KK
  refine norm_ (a' := ?_) ?_ ?_
  rotate_left
  · show Act.put _ (some 8) _ = _
    simp only [Act.put, List.setIfInBounds_toArray, List.set_cons_zero, List.set_cons_succ, i64_w, i32_w]
    rfl
  have HR := Aside0.mk hrun
  have HC2 := Aside0.mk hc2.1
  have HF2 := Aside0.mk hc2.2.1
  have HL2 := Aside0.mk (And.intro hl2 (And.intro hf2 hbl))
  have HC9 := Aside0.mk hc9a
  clear hra hrun hc2 hl2 hf2 hbl hc9 hc9a c0d HC
  refine pure_ (i := 4) (N := some 9) (v := ?_) (a' := ?_) #[true, true, true, true, true, false, false, false] rfl rfl (by kernel_rfl) (fun _ _ _ h => h) (Or.inl ⟨by rfl, ?_⟩) ?_ ?_
  rotate_left
  · intro w'
    go_simp
    with_reducible rfl
  rotate_left
  · simp only [Act.put, List.setIfInBounds_toArray, List.set_cons_zero, List.set_cons_succ, i64_w, i32_w]
    rfl
  refine one_ (i := 5) (N := some 10) #[true, true, true, true, true, true, false, false] rfl rfl (by kernel_rfl) (by decide) (fun KK hK => ?_)
  refine value_ (v := .slice (some ⟨w9.heap.size, 0, none⟩) 1 1) (w1 := w9.alloc (.cells #[.string name, .int .i64 0, .slice A1 n1 c1] 28)) (by rfl) rfl (by first | (go_simp; done) | (go_simp; rfl)) ?_
  refine hK.out _ _ HC9.out (fun hHeld => ?_)
  clear hK KK
  refine norm_ (a' := ?_) ?_ ?_
  rotate_left
  · show Act.put _ (some 10) _ = _
    simp only [Act.put, List.setIfInBounds_toArray, List.set_cons_zero, List.set_cons_succ, i64_w, i32_w]
    rfl
  refine one_ (i := 6) (N := some 11) #[true, true, true, true, true, true, true, false] rfl rfl (by kernel_rfl) (by decide) (fun KK hK => ?_)
  rw [if_pos (by rfl)]
  refine wp_append_v (.tmp 5) (.tmp 10) 29 rfl _ _ _ _ rfl rfl HR.out ?_
  refine hK.out _ _ HC2.out (fun hHeld => ?_)
  clear hK KK
  refine norm_ (a' := ?_) ?_ ?_
  rotate_left
  · show Act.put _ (some 11) _ = _
    simp only [Act.put, List.setIfInBounds_toArray, List.set_cons_zero, List.set_cons_succ, i64_w, i32_w]
    rfl
  have xc := HC2.out
  have xf := HF2.out
  refine last_ (i := 7) (N := none) #[true, true, true, true, true, true, true, true] rfl rfl (by kernel_rfl) (by decide) (fun K hK => ?_)
  refine skip_ (w1 := ?_) (by rfl) rfl ?_ ?_
  rotate_left
  · go_simp
    rfl
  refine hK.out _ _ ?_
  clear hK K
  refine done_ (by kernel_rfl) ?_
  go_wp2_with fail
  go_returns
  obtain ⟨h1, h2, h3⟩ := HL2.out
  exact ⟨rfl, _, _, h1, ((Fs.drew B W).trans (Fs.ofBelow B h3)).trans h2⟩
set_option maxRecDepth 100000 in
set_option maxHeartbeats 1000000 in
/-- What Slots does with one slot. -/
theorem sl1_had {W : World} {B g0 : Nat} {v : Value} {L : List SA} {x : Ent} (H : LAt W B g0 v L) (hB : B ≤ W.heap.size) (hx : W.heap[x.g]? = some x.obj) (hr : RowAt W x.v x.bs) (hh : x.had = true) (hlen : L.length < 1000000000) :
    Calls Try.prog 46 #[.string x.name, ptr x.g, ptr g0] W fun e w' => e = .returned (.tuple #[]) ∧ ∃ v' bv', LAt w' B g0 v' (L ++ [⟨x.name, x.ver, bv', x.bs⟩]) ∧ Fs B W w' := by
  obtain ⟨A, c, rfl⟩ := H.form
  obtain ⟨A0, n0, c0, hv0⟩ := hr.form
  have c0d : W.drew.cell? ⟨g0, 0, none⟩ = some (.slice A L.length c) := (blk_cell H.cell 0).trans rfl
  have x2 : W.cell? ⟨x.g, 2, none⟩ = some (.bool true) := by have := Ent.c2 hx; rw [hh] at this; exact this
  have x0 : W.drew.cell? ⟨x.g, 0, none⟩ = some (.int .i64 x.ver) := Ent.c0 hx
  have x1 : W.drew.cell? ⟨x.g, 1, none⟩ = some (.slice A0 n0 c0) := by have := Ent.c1 hx; rw [hv0] at this; exact this
  rw [hv0] at hr
  have HC := Aside0.mk (clone_calls hr.reads.drew)
  have HL := Aside0.mk H
  have HLn := Aside0.mk hlen
  have HBB := Aside0.mk hB
  obtain ⟨n, hn⟩ : ∃ n, n = L.length := ⟨_, rfl⟩
  rw [← hn] at c0d
  have HN := Aside0.mk hn
  unfold ptr
  have HX := Aside0.mk (And.intro hx hv0)
  clear H hB hr hlen hn hx hh hv0
  go_enter Try.func46, Try.ntmps46
  go_wp2_with fail
  refine start_ (n := 15) (S := (fun w' => w'.cell? ⟨g0, 0, none⟩ = some (.slice A n c) ∧ w'.cell? ⟨x.g, 0, none⟩ = some (.int .i64 x.ver) ∧ w'.cell? ⟨x.g, 1, none⟩ = some (.slice A0 n0 c0))) (ds := [14]) #[false, false, false, false, false, false, false, false, false, false, false, false, false, false, false] (by kernel_rfl) rfl rfl ⟨c0d, x0, x1⟩ (fun hHeld => ?_)
  refine take_ (i := 0) (N := some 9) (v := ?_) (a' := ?_) #[true, false, false, false, false, false, false, false, false, false, false, false, false, false, false] rfl rfl (by kernel_rfl) (fun _ _ _ h => h) (Or.inl ⟨by rfl, ?_⟩) hHeld ?_ ?_
  rotate_left
  · rintro w' ⟨s0, s1, s2⟩
    go_simp
    with_reducible rfl
  rotate_left
  · simp only [Act.put, List.setIfInBounds_toArray, List.set_cons_zero, List.set_cons_succ, i64_w, i32_w]
    rfl
  refine pure_ (i := 1) (N := some 10) (v := ?_) (a' := ?_) #[true, true, false, false, false, false, false, false, false, false, false, false, false, false, false] rfl rfl (by kernel_rfl) (fun _ _ _ h => h) (Or.inl ⟨by rfl, ?_⟩) ?_ ?_
  rotate_left
  · intro w'
    go_simp
    with_reducible rfl
  rotate_left
  · simp only [Act.put, List.setIfInBounds_toArray, List.set_cons_zero, List.set_cons_succ, i64_w, i32_w]
    rfl
  refine pure_ (i := 2) (N := some 11) (v := ?_) (a' := ?_) #[true, true, true, false, false, false, false, false, false, false, false, false, false, false, false] rfl rfl (by kernel_rfl) (fun _ _ _ h => h) (Or.inl ⟨by rfl, ?_⟩) ?_ ?_
  rotate_left
  · intro w'
    go_simp
    with_reducible rfl
  rotate_left
  · simp only [Act.put, List.setIfInBounds_toArray, List.set_cons_zero, List.set_cons_succ, i64_w, i32_w]
    rfl
  refine pure_ (i := 3) (N := some 12) (v := ?_) (a' := ?_) #[true, true, true, true, false, false, false, false, false, false, false, false, false, false, false] rfl rfl (by kernel_rfl) (fun _ _ _ h => h) (Or.inl ⟨by rfl, ?_⟩) ?_ ?_
  rotate_left
  · intro w'
    go_simp
    with_reducible rfl
  rotate_left
  · simp only [Act.put, List.setIfInBounds_toArray, List.set_cons_zero, List.set_cons_succ, i64_w, i32_w]
    rfl
  refine pure_ (i := 4) (N := some 13) (v := ?_) (a' := ?_) #[true, true, true, true, true, false, false, false, false, false, false, false, false, false, false] rfl rfl (by kernel_rfl) (fun _ _ _ h => h) (Or.inl ⟨by rfl, ?_⟩) ?_ ?_
  rotate_left
  · intro w'
    go_simp
    with_reducible rfl
  rotate_left
  · simp only [Act.put, List.setIfInBounds_toArray, List.set_cons_zero, List.set_cons_succ, i64_w, i32_w]
    rfl
  refine take_ (i := 5) (N := some 14) (v := ?_) (a' := ?_) #[true, true, true, true, true, true, false, false, false, false, false, false, false, false, false] rfl rfl (by kernel_rfl) (fun _ _ _ h => h) (Or.inl ⟨by rfl, ?_⟩) hHeld ?_ ?_
  rotate_left
  · rintro w' ⟨s0, s1, s2⟩
    go_simp
    with_reducible rfl
  rotate_left
  · simp only [Act.put, List.setIfInBounds_toArray, List.set_cons_zero, List.set_cons_succ, i64_w, i32_w]
    rfl
  refine pure_ (i := 6) (N := some 15) (v := ?_) (a' := ?_) #[true, true, true, true, true, true, true, false, false, false, false, false, false, false, false] rfl rfl (by kernel_rfl) (fun _ _ _ h => h) (Or.inl ⟨by rfl, ?_⟩) ?_ ?_
  rotate_left
  · intro w'
    go_simp
    with_reducible rfl
  rotate_left
  · simp only [Act.put, List.setIfInBounds_toArray, List.set_cons_zero, List.set_cons_succ, i64_w, i32_w]
    rfl
  refine pure_ (i := 7) (N := some 16) (v := ?_) (a' := ?_) #[true, true, true, true, true, true, true, true, false, false, false, false, false, false, false] rfl rfl (by kernel_rfl) (fun _ _ _ h => h) (Or.inl ⟨by rfl, ?_⟩) ?_ ?_
  rotate_left
  · intro w'
    go_simp
    with_reducible rfl
  rotate_left
  · simp only [Act.put, List.setIfInBounds_toArray, List.set_cons_zero, List.set_cons_succ, i64_w, i32_w]
    rfl
  refine pure_ (i := 8) (N := some 17) (v := ?_) (a' := ?_) #[true, true, true, true, true, true, true, true, true, false, false, false, false, false, false] rfl rfl (by kernel_rfl) (fun _ _ _ h => h) (Or.inl ⟨by rfl, ?_⟩) ?_ ?_
  rotate_left
  · intro w'
    go_simp
    with_reducible rfl
  rotate_left
  · simp only [Act.put, List.setIfInBounds_toArray, List.set_cons_zero, List.set_cons_succ, i64_w, i32_w]
    rfl
  refine take_ (i := 9) (N := some 18) (v := ?_) (a' := ?_) #[true, true, true, true, true, true, true, true, true, true, false, false, false, false, false] rfl rfl (by kernel_rfl) (fun _ _ _ h => h) (Or.inl ⟨by rfl, ?_⟩) hHeld ?_ ?_
  rotate_left
  · rintro w' ⟨s0, s1, s2⟩
    go_simp
    with_reducible rfl
  rotate_left
  · simp only [Act.put, List.setIfInBounds_toArray, List.set_cons_zero, List.set_cons_succ, i64_w, i32_w]
    rfl
  refine one_ (i := 10) (N := some 19) #[true, true, true, true, true, true, true, true, true, true, true, false, false, false, false] rfl rfl (by kernel_rfl) (by decide) (fun KK hK => ?_)
  refine goes_ Try.func35 (by kernel_rfl) rfl #[.slice A0 n0 c0] (by rfl) rfl rfl (by simp only [List.map_toArray, List.map_cons, List.map_nil]; rfl) ?_
  refine HC.out.mono ?_
  rintro e w9 ⟨bv, rfl, hra, hbl⟩
  obtain ⟨A1, n1, c1, rfl⟩ := hra.form
  have hw9 := (hbl.block _ (blk_lt (show W.drew.heap[x.g]? = _ from HX.out.1))).trans (show W.drew.heap[x.g]? = _ from HX.out.1)
  obtain ⟨A2, c2, w2, hrun, hc2, hl2, hf2⟩ := (HL.out.drew.same hbl).push ⟨x.name, x.ver, .slice A1 n1 c1, x.bs⟩ hra HLn.out (Nat.le_trans HBB.out hbl.size)
  have hc9 : w9.cell? ⟨g0, 0, none⟩ = some (.slice A n c) := (hbl.cell (p := ⟨g0, 0, none⟩) (World.block_lt_of_cell? W.drew _ c0d)).trans c0d
  have hx9 : w9.cell? ⟨x.g, 0, none⟩ = some (.int .i64 x.ver) := (hbl.cell (p := ⟨x.g, 0, none⟩) (World.block_lt_of_cell? W.drew _ x0)).trans x0
  have hy9 : w9.cell? ⟨x.g, 1, none⟩ = some (.slice A0 n0 c0) := (hbl.cell (p := ⟨x.g, 1, none⟩) (World.block_lt_of_cell? W.drew _ x1)).trans x1
  simp only [← HN.out] at hrun hc2 hl2 hf2
  refine ⟨_, rfl, ?_⟩
  refine hK.out _ _ ⟨hc9, hx9, hy9⟩ (fun hHeld => ?_)
  clear hK KK
  refine norm_ (a' := ?_) ?_ ?_
  rotate_left
  · show Act.put _ (some 19) _ = _
    simp only [Act.put, List.setIfInBounds_toArray, List.set_cons_zero, List.set_cons_succ, i64_w, i32_w]
    rfl
  have hw2 := hc2.2.2.keep _ _ hw9 (.inr rfl)
  have HX2 := Aside0.mk (And.intro (Ent.c0 hw2) ((Ent.c1 hw2).trans (congrArg some HX.out.2)))
  clear hw2 hw9
  have HR := Aside0.mk hrun
  have HC2 := Aside0.mk hc2.1
  have HF2 := Aside0.mk hc2.2.1
  have HL2 := Aside0.mk (And.intro hl2 (And.intro hf2 hbl))
  have HC9 := Aside0.mk (And.intro (Lib.cell?_alloc_some (.cells #[.string x.name, .int .i64 x.ver, .slice A1 n1 c1] 28) hc9) (And.intro (Lib.cell?_alloc_some (.cells #[.string x.name, .int .i64 x.ver, .slice A1 n1 c1] 28) hx9) (Lib.cell?_alloc_some (.cells #[.string x.name, .int .i64 x.ver, .slice A1 n1 c1] 28) hy9)))
  clear hra hrun hc2 hl2 hf2 hbl hc9 hx9 hy9 c0d x0 x1 x2 HC
  refine pure_ (i := 11) (N := some 20) (v := ?_) (a' := ?_) #[true, true, true, true, true, true, true, true, true, true, true, true, false, false, false] rfl rfl (by kernel_rfl) (fun _ _ _ h => h) (Or.inl ⟨by rfl, ?_⟩) ?_ ?_
  rotate_left
  · intro w'
    go_simp
    with_reducible rfl
  rotate_left
  · simp only [Act.put, List.setIfInBounds_toArray, List.set_cons_zero, List.set_cons_succ, i64_w, i32_w]
    rfl
  refine one_ (i := 12) (N := some 21) #[true, true, true, true, true, true, true, true, true, true, true, true, true, false, false] rfl rfl (by kernel_rfl) (by decide) (fun KK hK => ?_)
  refine value_ (v := .slice (some ⟨w9.heap.size, 0, none⟩) 1 1) (w1 := w9.alloc (.cells #[.string x.name, .int .i64 x.ver, .slice A1 n1 c1] 28)) (by rfl) rfl (by first | (go_simp; done) | (go_simp; rfl)) ?_
  refine hK.out _ _ HC9.out (fun hHeld => ?_)
  clear hK KK
  refine norm_ (a' := ?_) ?_ ?_
  rotate_left
  · show Act.put _ (some 21) _ = _
    simp only [Act.put, List.setIfInBounds_toArray, List.set_cons_zero, List.set_cons_succ, i64_w, i32_w]
    rfl
  refine one_ (i := 13) (N := some 22) #[true, true, true, true, true, true, true, true, true, true, true, true, true, true, false] rfl rfl (by kernel_rfl) (by decide) (fun KK hK => ?_)
  rw [if_pos (by rfl)]
  refine wp_append_v (.tmp 9) (.tmp 21) 29 rfl _ _ _ _ rfl rfl HR.out ?_
  refine hK.out _ _ ⟨HC2.out, HX2.out⟩ (fun hHeld => ?_)
  clear hK KK
  refine norm_ (a' := ?_) ?_ ?_
  rotate_left
  · show Act.put _ (some 22) _ = _
    simp only [Act.put, List.setIfInBounds_toArray, List.set_cons_zero, List.set_cons_succ, i64_w, i32_w]
    rfl
  have xc := HC2.out
  have xf := HF2.out
  refine last_ (i := 14) (N := none) #[true, true, true, true, true, true, true, true, true, true, true, true, true, true, true] rfl rfl (by kernel_rfl) (by decide) (fun K hK => ?_)
  refine skip_ (w1 := ?_) (by rfl) rfl ?_ ?_
  rotate_left
  · go_simp
    rfl
  refine hK.out _ _ ?_
  clear hK K
  refine done_ (by kernel_rfl) ?_
  go_wp2_with fail
  go_returns
  obtain ⟨h1, h2, h3⟩ := HL2.out
  exact ⟨rfl, _, _, h1, ((Fs.drew B W).trans (Fs.ofBelow B h3)).trans h2⟩
set_option maxRecDepth 100000 in
theorem sl1_no {W : World} {g0 : Nat} {x : Ent} (hx : W.heap[x.g]? = some x.obj) (hh : x.had = false) :
    Calls Try.prog 46 #[.string x.name, ptr x.g, ptr g0] W fun e w' => e = .returned (.tuple #[]) ∧ w' = W := by
  have x2 : W.cell? ⟨x.g, 2, none⟩ = some (.bool false) := by have := Ent.c2 hx; rw [hh] at this; exact this
  unfold ptr
  clear hx hh
  go_enter Try.func46, Try.ntmps46
  go_wp2_with fail
  go_returns
  exact ⟨rfl, rfl⟩
end Go.Proofs.Ytkjliijcnllohaa.S
