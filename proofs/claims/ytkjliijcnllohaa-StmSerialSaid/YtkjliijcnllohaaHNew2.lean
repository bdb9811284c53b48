/- stm: New, its walk. -/
import Derived.Test.YtkjliijcnllohaaHNew
namespace Go.Proofs.Ytkjliijcnllohaa.S
open Go.RowKit Go.Proofs.YtkjliijcnllohaaW.PrintWords Go.Proofs.YtkjliijcnllohaaW.PrintLast Go.Proofs.YtkjliijcnllohaaW.PrintMore
set_option linter.unusedVariables false
set_option linter.unusedSimpArgs false
attribute [local go_sem ↓] Go.wp_at_zero Go.wp_at_succ

theorem spAt_grow2 {w w1 : World} {s bm : Nat} {clock : Int} {S : List Ent} (h : SpAt w s bm clock S) {name : ByteArray} (hm : MapIs w1 bm (put (S.map Ent.pair) name (ptr w.heap.size))) (x : Ent) (hb : But1 bm (w.alloc x.obj) w1) (hx : x.g = w.heap.size ∧ x.name = name) (hl : x.lock = none) (hr : RowAt w x.v x.bs) (h2 : get? (S.map Ent.pair) name = none) :
    SpAt w1 s bm clock (S ++ [x]) ∧ Fr [bm] w w1 := by
  obtain ⟨hg, hn⟩ := hx
  have hlt := h.mp.lt
  have hfr : Fr [bm] w w1 := (Fr.alloc [bm] w x.obj).trans (Fr.but1 hb (MapIs.norow (h.mp.fr (Fr.alloc [] w x.obj) (by simp))))
  refine ⟨⟨?_, ?_, ?_, ?_, ?_, ?_⟩, hfr⟩
  · rw [hb.block _ h.s_ne, heap_alloc_old w _ h.lt]; exact h.sp
  · rw [put_new h2] at hm
    rw [List.map_append]
    have : List.map Ent.pair [x] = [(name, ptr w.heap.size)] := by simp [Ent.pair, hn, hg]
    rw [this]; exact hm
  · intro y hy
    rcases List.mem_append.1 hy with hy | hy
    · rw [hb.block _ (h.g_ne hy), heap_alloc_old w _ (h.g_lt hy)]; exact h.slot y hy
    · obtain rfl := List.mem_singleton.1 hy
      rw [hb.block _ (by omega), hg, heap_alloc_new]
  · rw [List.pairwise_append]
    refine ⟨h.apart, by simp, fun y hy z hz => ?_⟩
    obtain rfl := List.mem_singleton.1 hz
    have := h.g_lt hy
    omega
  · intro y hy b hyb
    rcases List.mem_append.1 hy with hy | hy
    · obtain ⟨ca, hc⟩ := h.locks y hy b hyb
      exact hfr.kinds b ca 67 _ hc
    · obtain rfl := List.mem_singleton.1 hy
      rw [hl] at hyb; cases hyb
  · intro y hy
    rcases List.mem_append.1 hy with hy | hy
    · exact (h.rows y hy).fr hfr
    · obtain rfl := List.mem_singleton.1 hy
      exact hr.fr hfr

theorem new_arm {W w8 : World} {k s bm xb : Nat} {S : List Ent} {nm : ByteArray} {vr : Int} {A8 : Option Addr} {n8 c8 : Nat} {v' : Value} {bs : List Int} (hs : SpAt W s bm 0 S) (hx : W.heap[xb]? = some (.cells #[.string nm, .int .i64 vr, .slice A8 n8 c8] 28 (0, 0))) (hb8 : Below (W.drewN k).heap.size (W.drewN k) w8) (hr8 : RowAt w8 v' bs) (h2 : get? (S.map Ent.pair) nm = none) :
    ∃ A9 n9 c9 w10, v' = .slice A9 n9 c9 ∧ w8.cell? ⟨s, 0, none⟩ = some (.map (some bm)) ∧ w8.cell? ⟨xb, 0, none⟩ = some (.string nm) ∧ w8.cell? ⟨xb, 2, none⟩ = some (.slice A8 n8 c8) ∧
      (w8.alloc (.cells #[.int .i64 0, .slice A9 n9 c9, .bool true, .pointer none] 82)).cell? ⟨s, 0, none⟩ = some (.map (some bm)) ∧ (w8.alloc (.cells #[.int .i64 0, .slice A9 n9 c9, .bool true, .pointer none] 82)).cell? ⟨xb, 0, none⟩ = some (.string nm) ∧ (w8.alloc (.cells #[.int .i64 0, .slice A9 n9 c9, .bool true, .pointer none] 82)).cell? ⟨xb, 2, none⟩ = some (.slice A8 n8 c8) ∧
      (Instr.mapUpdate 61 (.map (some bm)) (.string nm) (.pointer (some ⟨w8.heap.size, 0, none⟩))).run Try.prog (w8.alloc (.cells #[.int .i64 0, .slice A9 n9 c9, .bool true, .pointer none] 82)) = .ok () w10 ∧
      w10.cell? ⟨s, 0, none⟩ = some (.map (some bm)) ∧ w10.cell? ⟨xb, 0, none⟩ = some (.string nm) ∧ w10.cell? ⟨xb, 2, none⟩ = some (.slice A8 n8 c8) ∧
      Aside0 (SpAt w10 s bm 0 (S ++ [⟨nm, w8.heap.size, 0, .slice A9 n9 c9, true, none, bs⟩]) ∧ (∀ B, B ≤ W.heap.size → B ≤ bm → Below B W w10) ∧ W.heap.size ≤ w8.heap.size) := by
  obtain ⟨A9, n9, c9, rfl⟩ := hr8.form
  have hf8 : Fr [] W w8 := (Fr.drewN W k).trans (Fr.ofBelow hb8 [])
  have hs8 := hs.fr hf8 (by simp) (by simp) (fun _ _ => by simp)
  have hx8 := hf8.get hx (by simp)
  obtain ⟨w10, hu, hm10, hb10⟩ := map_update (P := Try.prog) Try.underlying61 Try.underlying9 (hs8.mp.fr (Fr.alloc [] w8 (Ent.obj ⟨nm, w8.heap.size, 0, .slice A9 n9 c9, true, none, bs⟩)) (by simp)) nm (ptr w8.heap.size)
  obtain ⟨hs10, hf10⟩ := spAt_grow2 hs8 hm10 ⟨nm, w8.heap.size, 0, .slice A9 n9 c9, true, none, bs⟩ hb10 ⟨rfl, rfl⟩ rfl hr8 h2
  have hne : xb ≠ bm := fun e => by
    obtain ⟨es, c, hb, _⟩ := hs8.mp
    rw [e, hb] at hx8; cases hx8
  have hx10 := hf10.get hx8 (by simpa using hne)
  have hx9 := blk_alloc hx8 (.cells #[.int .i64 0, .slice A9 n9 c9, .bool true, .pointer none] 82)
  have hsz : W.heap.size ≤ w8.heap.size := hf8.size
  exact ⟨A9, n9, c9, w10, rfl, hs8.c0, (blk_cell hx8 0).trans rfl, (blk_cell hx8 2).trans rfl, (World.cell?_alloc_lt _ _ _ hs8.lt).trans hs8.c0, (blk_cell hx9 0).trans rfl, (blk_cell hx9 2).trans rfl, hu, hs10.c0, (blk_cell hx10 0).trans rfl, (blk_cell hx10 2).trans rfl,
    ⟨hs10, fun B hB hbm => (hf8.below hB (fun i hi => by cases hi)).trans (hf10.below (Nat.le_trans hB hsz) (fun i hi => by simp at hi; omega)), hsz⟩⟩
theorem Reads.form {w : World} {v : Value} {xs : List Int} (h : Reads w v xs) : ∃ A n c, v = .slice A n c := by
  rcases h.2 with ⟨rfl, _⟩ | ⟨a, c, rfl, _⟩
  · exact ⟨_, _, _, rfl⟩
  · exact ⟨_, _, _, rfl⟩
/-- Where New's's loop stands. -/
structure NewRel (w wr : World) (s bm i : Nat) (L : List SA) (S : List Ent) : Prop where
  sp : SpAt wr s bm 0 S
  names : S.map (·.name) = (L.take i).map (·.name)
  free : ∀ x ∈ S, x.sv.lock = none ∧ x.ver = 0 ∧ x.had = true
  bytes : S.map (·.bs) = (L.take i).map (·.bs)
  bel : Below w.heap.size w wr
  up : w.heap.size ≤ s ∧ w.heap.size ≤ bm ∧ ∀ x ∈ S, w.heap.size ≤ x.g
  apart : (L.take i).Pairwise fun x y => x.name ≠ y.name

/-- What New tells and leaves. -/
def NewPost (w : World) (L : List SA) (e : Ending) (w' : World) : Prop := Below w.heap.size w w' ∧
  (((L.all fun x => fitB x.name) = false ∧ e = .returned (.tuple #[.pointer none, .int .i64 6])) ∨
   ((L.all fun x => fitB x.name) = true ∧ ¬ (L.Pairwise fun x y => x.name ≠ y.name) ∧ e = .returned (.tuple #[.pointer none, .int .i64 1])) ∨
   ((L.all fun x => fitB x.name) = true ∧ (L.Pairwise fun x y => x.name ≠ y.name) ∧ ∃ s bm S, e = .returned (.tuple #[ptr s, .int .i64 0]) ∧ SpAt w' s bm 0 S ∧ S.map (·.name) = L.map (·.name) ∧ S.map (·.bs) = L.map (·.bs) ∧ (∀ x ∈ S, x.sv.lock = none ∧ x.ver = 0 ∧ x.had = true) ∧ w.heap.size ≤ s ∧ w.heap.size ≤ bm ∧ ∀ x ∈ S, w.heap.size ≤ x.g))

set_option maxRecDepth 100000 in
set_option maxHeartbeats 8000000 in
theorem new_calls {L : List SA} {A : Option Addr} {c : Nat} {w : World} (h : SlotsIn w A L) : Calls Try.prog 8 #[.slice A L.length c] w (NewPost w L) := by
  have hu28 := Try.underlying28
  have hmm := @run_makeMap Try.prog
  have H := Aside0.mk h.2
  have hmx := h.1
  have HC := Aside0.mk (contains_calls (c := c) h)
  clear h
  go_enter Try.func8, Try.ntmps8
  go_wp2_with fail
  refine HC.out.mono ?_
  rintro e w1 ⟨rfl, hb1⟩
  have HB1 := Aside0.mk hb1
  clear hb1
  cases hall : (L.all fun x => fitB x.name) with
  | false =>
    have HA := Aside0.mk hall
    clear hall
    go_wp2_with fail
    go_returns
    exact ⟨HB1.out, .inl ⟨HA.out, rfl⟩⟩
  | true =>
    have HA := Aside0.mk hall
    clear hall
    go_wp2_with fail
    go_loopw [16] (fun v16 wr => ∃ i : Nat, v16 = .int .i64 i ∧ Aside0 (i ≤ L.length) ∧ ∃ S, Aside0 (NewRel w wr (w1.heap.size + 1) w1.heap.size i L S)) (fun v16 wr => L.length - (intOf v16).toNat)
    case atStart =>
      refine ⟨0, rfl, ⟨Nat.zero_le _⟩, [], ⟨⟨?_, rfl, by simp, rfl, ?_, ?_, by simp⟩⟩⟩
      · have h1 := blk_new (w1.alloc (.map #[] 0)) (.cells #[.map (some w1.heap.size), .int .i64 0] 63)
        rw [show (w1.alloc (.map #[] 0)).heap.size = w1.heap.size + 1 from by simp] at h1
        exact ⟨h1, (MapIs.new w1).fr (Fr.alloc [] _ _) (by simp), by simp, by simp, by simp, by simp⟩
      · exact below_alloc (below_alloc HB1.out _) _
      · have := HB1.out.size
        exact ⟨by omega, by omega, by simp⟩
    case round =>
      obtain ⟨i, rfl, hi, S, hr⟩ := hrel
      by_cases hlt : i < L.length
      · have hlt' : ((i : Int) < (L.length : Int)) := by omega
        have hltb : decide ((i : Int) < (L.length : Int)) = true := decide_eq_true hlt'
        obtain ⟨ad, hA, x0, x1, x2, hrd⟩ := H.out i hlt
        cases hA
        have HRD := Aside0.mk (hrd.below hr.out.bel (Nat.le_refl _))
        replace x0 := (hr.out.bel.cell (World.block_lt_of_cell? w _ x0)).trans x0
        replace x1 := (hr.out.bel.cell (World.block_lt_of_cell? w _ x1)).trans x1
        replace x2 := (hr.out.bel.cell (World.block_lt_of_cell? w _ x2)).trans x2
        have hsp := hr.out.sp
        have HAPI := Aside0.mk hr.out.apart
        have hlk := get_pairs S (L[i]'hlt).name
        have HEL : Aside0 (L.take (i + 1) = L.take i ++ [L[i]'hlt]) := ⟨List.take_succ_eq_append_getElem hlt⟩
        have HMEM : Aside0 (L[i]'hlt ∈ L.drop i) := ⟨by rw [List.drop_eq_getElem_cons hlt]; exact List.mem_cons_self ..⟩
        generalize hnm : (L[i]'hlt).name = nm at x0 hlk
        generalize hvv : (L[i]'hlt).v = vv at x2 HRD
        generalize hbs : (L[i]'hlt).bs = bs at HRD
        have HN := Aside0.mk (And.intro hnm (And.intro hvv hbs))
        clear hrd hnm hvv hbs
        obtain ⟨A8, n8, c8, hvv⟩ := HRD.out.form
        rw [hvv] at x2
        have HVV := Aside0.mk hvv
        clear hvv
        go_wp2_with fail
        have s0 : (wr.alloc (.cells #[.string nm, .int .i64 L[i].ver, .slice A8 n8 c8] 28)).cell? ⟨w1.heap.size + 1, 0, none⟩ = some (.map (some w1.heap.size)) := (World.cell?_alloc_lt _ _ _ hsp.lt).trans hsp.c0
        have hbx := blk_new wr (.cells #[.string nm, .int .i64 L[i].ver, .slice A8 n8 c8] 28)
        have n0 : (wr.alloc (.cells #[.string nm, .int .i64 L[i].ver, .slice A8 n8 c8] 28)).cell? ⟨wr.heap.size, 0, none⟩ = some (.string nm) := (blk_cell hbx 0).trans rfl
        have n2 : (wr.alloc (.cells #[.string nm, .int .i64 L[i].ver, .slice A8 n8 c8] 28)).cell? ⟨wr.heap.size, 2, none⟩ = some (.slice A8 n8 c8) := (blk_cell hbx 2).trans rfl
        have hl := map_lookup (P := Try.prog) Try.underlying61 Try.underlying9 (Try.zeroValue78 (wr.alloc (.cells #[.string nm, .int .i64 L[i].ver, .slice A8 n8 c8] 28)).drew) ((hsp.mp.fr (Fr.alloc [] wr _) (by simp)).drewN 1) nm true
        rcases hlk with ⟨h1, h2⟩ | ⟨x, hx, hxn, h1, h2⟩
        · rw [h2] at hl
          simp only [Option.getD_none, Option.isSome_none, if_true] at hl
          refine start_ (n := 12) (S := (fun w' => w'.cell? ⟨w1.heap.size + 1, 0, none⟩ = some (.map (some w1.heap.size)) ∧ w'.cell? ⟨wr.heap.size, 0, none⟩ = some (.string nm) ∧ (Instr.lookup 61 (.map (some w1.heap.size)) (.string nm) true).run Try.prog w' = .ok (.tuple #[.pointer none, .bool false]) w')) (ds := []) #[false, false, false, false, false, false, false, false, false, false, false, false] (by kernel_rfl) rfl rfl ⟨s0, n0, hl⟩ (fun hHeld => ?_)
          refine take_ (i := 0) (N := some 21) (v := ?_) (a' := ?_) #[true, false, false, false, false, false, false, false, false, false, false, false] rfl rfl (by kernel_rfl) (fun _ _ _ h => h) (Or.inl ⟨by rfl, ?_⟩) hHeld ?_ ?_
          rotate_left
          · rintro w' ⟨s0, s1, s2⟩
            go_simp
            with_reducible rfl
          rotate_left
          · simp only [Act.put, List.setIfInBounds_toArray, List.set_cons_zero, List.set_cons_succ, i64_w, i32_w]
            rfl
          refine take_ (i := 1) (N := some 22) (v := ?_) (a' := ?_) #[true, true, false, false, false, false, false, false, false, false, false, false] rfl rfl (by kernel_rfl) (fun _ _ _ h => h) (Or.inl ⟨by rfl, ?_⟩) hHeld ?_ ?_
          rotate_left
          · rintro w' ⟨s0, s1, s2⟩
            go_simp
            with_reducible rfl
          rotate_left
          · simp only [Act.put, List.setIfInBounds_toArray, List.set_cons_zero, List.set_cons_succ, i64_w, i32_w]
            rfl
          refine take_ (i := 2) (N := some 23) (v := ?_) (a' := ?_) #[true, true, true, false, false, false, false, false, false, false, false, false] rfl rfl (by kernel_rfl) (fun _ _ _ h => h) (Or.inl ⟨by rfl, ?_⟩) hHeld ?_ ?_
          rotate_left
          · rintro w' ⟨s0, s1, s2⟩
            go_simp
            with_reducible rfl
          rotate_left
          · simp only [Act.put, List.setIfInBounds_toArray, List.set_cons_zero, List.set_cons_succ, i64_w, i32_w]
            rfl
          refine take_ (i := 3) (N := some 24) (v := ?_) (a' := ?_) #[true, true, true, true, false, false, false, false, false, false, false, false] rfl rfl (by kernel_rfl) (fun _ _ _ h => h) (Or.inl ⟨by rfl, ?_⟩) hHeld ?_ ?_
          rotate_left
          · rintro w' ⟨s0, s1, s2⟩
            go_simp
            with_reducible rfl
          rotate_left
          · simp only [Act.put, List.setIfInBounds_toArray, List.set_cons_zero, List.set_cons_succ, i64_w, i32_w]
            rfl
          refine take_ (i := 4) (N := some 25) (v := ?_) (a' := ?_) #[true, true, true, true, true, false, false, false, false, false, false, false] rfl rfl (by kernel_rfl) (fun _ _ _ h => h) (Or.inl ⟨by rfl, ?_⟩) hHeld ?_ ?_
          rotate_left
          · rintro w' ⟨s0, s1, s2⟩
            go_simp
            with_reducible rfl
          rotate_left
          · simp only [Act.put, List.setIfInBounds_toArray, List.set_cons_zero, List.set_cons_succ, i64_w, i32_w]
            rfl
          refine take_ (i := 5) (N := some 26) (v := ?_) (a' := ?_) #[true, true, true, true, true, true, false, false, false, false, false, false] rfl rfl (by kernel_rfl) (fun _ _ _ h => h) (Or.inl ⟨by rfl, ?_⟩) hHeld ?_ ?_
          rotate_left
          · rintro w' ⟨s0, s1, s2⟩
            go_simp
            with_reducible rfl
          rotate_left
          · simp only [Act.put, List.setIfInBounds_toArray, List.set_cons_zero, List.set_cons_succ, i64_w, i32_w]
            rfl
          refine take_ (i := 6) (N := some 27) (v := ?_) (a' := ?_) #[true, true, true, true, true, true, true, false, false, false, false, false] rfl rfl (by kernel_rfl) (fun _ _ _ h => h) (Or.inl ⟨by rfl, ?_⟩) hHeld ?_ ?_
          rotate_left
          · rintro w' ⟨s0, s1, s2⟩
            go_simp
            with_reducible rfl
          rotate_left
          · simp only [Act.put, List.setIfInBounds_toArray, List.set_cons_zero, List.set_cons_succ, i64_w, i32_w]
            rfl
          refine take_ (i := 7) (N := some 20) (v := ?_) (a' := ?_) #[true, true, true, true, true, true, true, true, false, false, false, false] rfl rfl (by kernel_rfl) (fun _ _ _ h => h) (Or.inl ⟨by rfl, ?_⟩) hHeld ?_ ?_
          rotate_left
          · rintro w' ⟨s0, s1, s2⟩
            go_simp
            with_reducible rfl
          rotate_left
          · simp only [Act.put, List.setIfInBounds_toArray, List.set_cons_zero, List.set_cons_succ, i64_w, i32_w]
            rfl
          refine take_ (i := 8) (N := some 28) (v := ?_) (a' := ?_) #[true, true, true, true, true, true, true, true, true, false, false, false] rfl rfl (by kernel_rfl) (fun _ _ _ h => h) (Or.inl ⟨by rfl, ?_⟩) hHeld ?_ ?_
          rotate_left
          · rintro w' ⟨s0, s1, s2⟩
            go_simp
            with_reducible rfl
          rotate_left
          · simp only [Act.put, List.setIfInBounds_toArray, List.set_cons_zero, List.set_cons_succ, i64_w, i32_w]
            rfl
          refine take_ (i := 9) (N := some 29) (v := ?_) (a' := ?_) #[true, true, true, true, true, true, true, true, true, true, false, false] rfl rfl (by kernel_rfl) (fun _ _ _ h => h) (Or.inl ⟨by rfl, ?_⟩) hHeld ?_ ?_
          rotate_left
          · rintro w' ⟨s0, s1, s2⟩
            go_simp
            with_reducible rfl
          rotate_left
          · simp only [Act.put, List.setIfInBounds_toArray, List.set_cons_zero, List.set_cons_succ, i64_w, i32_w]
            rfl
          refine take_ (i := 10) (N := some 7) (v := ?_) (a' := ?_) #[true, true, true, true, true, true, true, true, true, true, true, false] rfl rfl (by kernel_rfl) (fun _ _ _ h => h) (Or.inl ⟨by rfl, ?_⟩) hHeld ?_ ?_
          rotate_left
          · rintro w' ⟨s0, s1, s2⟩
            go_simp
            with_reducible rfl
          rotate_left
          · simp only [Act.put, List.setIfInBounds_toArray, List.set_cons_zero, List.set_cons_succ, i64_w, i32_w]
            rfl
          refine take_ (i := 11) (N := some 8) (v := ?_) (a' := ?_) #[true, true, true, true, true, true, true, true, true, true, true, true] rfl rfl (by kernel_rfl) (fun _ _ _ h => h) (Or.inl ⟨by rfl, ?_⟩) hHeld ?_ ?_
          rotate_left
          · rintro w' ⟨s0, s1, s2⟩
            go_simp
            with_reducible rfl
          rotate_left
          · simp only [Act.put, List.setIfInBounds_toArray, List.set_cons_zero, List.set_cons_succ, i64_w, i32_w]
            rfl
          refine done_ (by kernel_rfl) ?_
          clear hl hHeld
          have HR := Aside0.mk hr.out
          have H2 := Aside0.mk h2
          obtain ⟨W, hW⟩ : ∃ W, W = (wr.alloc (.cells #[.string nm, .int .i64 L[i].ver, .slice A8 n8 c8] 28)).drew := ⟨_, rfl⟩
          have HFW : Aside0 (Fr [] wr W) := ⟨by rw [hW]; exact (Fr.alloc [] wr _).trans (Fr.drewN _ 1)⟩
          have HSW := Aside0.mk (hsp.fr HFW.out (by simp) (by simp) (fun _ _ => by simp))
          have HBX : Aside0 (W.heap[wr.heap.size]? = some (.cells #[.string nm, .int .i64 L[i].ver, .slice A8 n8 c8] 28 (0, 0))) := ⟨by rw [hW]; exact hbx⟩
          have HRW : Aside0 (Reads W (.slice A8 n8 c8) bs) := ⟨by
            have h3 := HRD.out
            rw [HVV.out] at h3
            have h4 := h3.below (below_alloc (Below.refl wr.heap.size wr) (.cells #[.string nm, .int .i64 L[i].ver, .slice A8 n8 c8] 28)) (Nat.le_refl _)
            rw [hW]; exact h4⟩
          have HSZ : Aside0 (W.heap.size = wr.heap.size + 1) := ⟨by rw [hW]; show (wr.alloc _).heap.size = _; simp⟩
          rw [← hW]
          have p0 := HSW.out.c0
          have p1 : W.cell? ⟨wr.heap.size, 0, none⟩ = some (.string nm) := (blk_cell HBX.out 0).trans rfl
          have p2 : W.cell? ⟨wr.heap.size, 2, none⟩ = some (.slice A8 n8 c8) := (blk_cell HBX.out 2).trans rfl
          have l0 := Aside0.mk HSW.out.lt
          have HMLT := Aside0.mk hsp.mp.lt
          have l1 := Aside0.mk (blk_lt HBX.out)
          clear hW s0 n0 n2 hbx hr hsp h1 h2
          go_wp2_with fail
          go_region_held3 (fun w' => w'.cell? ⟨w1.heap.size + 1, 0, none⟩ = some (.map (some w1.heap.size)) ∧ w'.cell? ⟨wr.heap.size, 0, none⟩ = some (.string nm) ∧ w'.cell? ⟨wr.heap.size, 2, none⟩ = some (.slice A8 n8 c8)) (first | exact ⟨p0, p1, p2⟩ | exact ⟨k0, k1, k2⟩ | exact ⟨q0, q1, q2⟩ | exact ⟨r0, r1, r2⟩) (first | (go_at_call 35; refine (clone_calls (HRW.out.drewN _)).mono ?_; rintro e8 w8 ⟨v', rfl, hr8, hb8⟩; obtain ⟨A9, n9, c9, w10, rfl, k0, k1, k2, q0, q1, q2, hu', r0, r1, r2, HX⟩ := new_arm HSW.out HBX.out hb8 hr8 H2.out; clear hr8 hb8))
          have HREL : Aside0 (NewRel w w10 (w1.heap.size + 1) w1.heap.size (i + 1) L (S ++ [⟨nm, w8.heap.size, 0, .slice A9 n9 c9, true, none, bs⟩])) := ⟨by
            have hup := HR.out.up
            have hsz := HR.out.bel.size
            have hwW := HFW.out.size
            have hbel := ((HR.out.bel.trans (HFW.out.below hsz (fun i hi => by cases hi))).trans (HX.out.2.1 w.heap.size (by omega) hup.2.1))
            refine ⟨HX.out.1, ?_, ?_, ?_, hbel, ⟨hup.1, hup.2.1, ?_⟩, ?_⟩
            · rw [HEL.out, List.map_append, List.map_append, HR.out.names]; simp [HN.out.1]
            · intro x hx
              rcases List.mem_append.1 hx with hx | hx
              · exact HR.out.free x hx
              · obtain rfl := List.mem_singleton.1 hx
                exact ⟨rfl, rfl, rfl⟩
            · rw [HEL.out, List.map_append, List.map_append, HR.out.bytes]; simp [HN.out.2.2]
            · intro x hx
              rcases List.mem_append.1 hx with hx | hx
              · exact hup.2.2 x hx
              · obtain rfl := List.mem_singleton.1 hx
                have := HX.out.2.2
                show w.heap.size ≤ w8.heap.size
                omega
            · rw [HEL.out, List.pairwise_append]
              refine ⟨HAPI.out, by simp, fun x hx y hy => ?_⟩
              obtain rfl := List.mem_singleton.1 hy
              intro e
              have hxm : x.name ∈ S.map (·.name) := by rw [HR.out.names]; exact List.mem_map.2 ⟨x, hx, rfl⟩
              obtain ⟨z, hz, hzn⟩ := List.mem_map.1 hxm
              exact get_none.1 H2.out z.pair (List.mem_map.2 ⟨z, hz, rfl⟩) (by show z.name = nm; rw [hzn, e, HN.out.1])⟩
          clear p0 p1 p2 k0 k1 k2 q0 q1 q2 r0 r1 r2 hu'
          go_wp2
          go_roundw
          case rel => exact ⟨i + 1, by go_num, ⟨hlt⟩, _, HREL⟩
          case measure => simp [intOf]; omega
        · rw [h2] at hl
          simp only [Option.getD_some, Option.isSome_some, if_true, ptr] at hl
          refine start_ (n := 12) (S := (fun w' => w'.cell? ⟨w1.heap.size + 1, 0, none⟩ = some (.map (some w1.heap.size)) ∧ w'.cell? ⟨wr.heap.size, 0, none⟩ = some (.string nm) ∧ (Instr.lookup 61 (.map (some w1.heap.size)) (.string nm) true).run Try.prog w' = .ok (.tuple #[.pointer (some ⟨x.g, 0, none⟩), .bool true]) w')) (ds := []) #[false, false, false, false, false, false, false, false, false, false, false, false] (by kernel_rfl) rfl rfl ⟨s0, n0, hl⟩ (fun hHeld => ?_)
          refine take_ (i := 0) (N := some 21) (v := ?_) (a' := ?_) #[true, false, false, false, false, false, false, false, false, false, false, false] rfl rfl (by kernel_rfl) (fun _ _ _ h => h) (Or.inl ⟨by rfl, ?_⟩) hHeld ?_ ?_
          rotate_left
          · rintro w' ⟨s0, s1, s2⟩
            go_simp
            with_reducible rfl
          rotate_left
          · simp only [Act.put, List.setIfInBounds_toArray, List.set_cons_zero, List.set_cons_succ, i64_w, i32_w]
            rfl
          refine take_ (i := 1) (N := some 22) (v := ?_) (a' := ?_) #[true, true, false, false, false, false, false, false, false, false, false, false] rfl rfl (by kernel_rfl) (fun _ _ _ h => h) (Or.inl ⟨by rfl, ?_⟩) hHeld ?_ ?_
          rotate_left
          · rintro w' ⟨s0, s1, s2⟩
            go_simp
            with_reducible rfl
          rotate_left
          · simp only [Act.put, List.setIfInBounds_toArray, List.set_cons_zero, List.set_cons_succ, i64_w, i32_w]
            rfl
          refine take_ (i := 2) (N := some 23) (v := ?_) (a' := ?_) #[true, true, true, false, false, false, false, false, false, false, false, false] rfl rfl (by kernel_rfl) (fun _ _ _ h => h) (Or.inl ⟨by rfl, ?_⟩) hHeld ?_ ?_
          rotate_left
          · rintro w' ⟨s0, s1, s2⟩
            go_simp
            with_reducible rfl
          rotate_left
          · simp only [Act.put, List.setIfInBounds_toArray, List.set_cons_zero, List.set_cons_succ, i64_w, i32_w]
            rfl
          refine take_ (i := 3) (N := some 24) (v := ?_) (a' := ?_) #[true, true, true, true, false, false, false, false, false, false, false, false] rfl rfl (by kernel_rfl) (fun _ _ _ h => h) (Or.inl ⟨by rfl, ?_⟩) hHeld ?_ ?_
          rotate_left
          · rintro w' ⟨s0, s1, s2⟩
            go_simp
            with_reducible rfl
          rotate_left
          · simp only [Act.put, List.setIfInBounds_toArray, List.set_cons_zero, List.set_cons_succ, i64_w, i32_w]
            rfl
          refine take_ (i := 4) (N := some 25) (v := ?_) (a' := ?_) #[true, true, true, true, true, false, false, false, false, false, false, false] rfl rfl (by kernel_rfl) (fun _ _ _ h => h) (Or.inl ⟨by rfl, ?_⟩) hHeld ?_ ?_
          rotate_left
          · rintro w' ⟨s0, s1, s2⟩
            go_simp
            with_reducible rfl
          rotate_left
          · simp only [Act.put, List.setIfInBounds_toArray, List.set_cons_zero, List.set_cons_succ, i64_w, i32_w]
            rfl
          refine take_ (i := 5) (N := some 26) (v := ?_) (a' := ?_) #[true, true, true, true, true, true, false, false, false, false, false, false] rfl rfl (by kernel_rfl) (fun _ _ _ h => h) (Or.inl ⟨by rfl, ?_⟩) hHeld ?_ ?_
          rotate_left
          · rintro w' ⟨s0, s1, s2⟩
            go_simp
            with_reducible rfl
          rotate_left
          · simp only [Act.put, List.setIfInBounds_toArray, List.set_cons_zero, List.set_cons_succ, i64_w, i32_w]
            rfl
          refine take_ (i := 6) (N := some 27) (v := ?_) (a' := ?_) #[true, true, true, true, true, true, true, false, false, false, false, false] rfl rfl (by kernel_rfl) (fun _ _ _ h => h) (Or.inl ⟨by rfl, ?_⟩) hHeld ?_ ?_
          rotate_left
          · rintro w' ⟨s0, s1, s2⟩
            go_simp
            with_reducible rfl
          rotate_left
          · simp only [Act.put, List.setIfInBounds_toArray, List.set_cons_zero, List.set_cons_succ, i64_w, i32_w]
            rfl
          refine take_ (i := 7) (N := some 20) (v := ?_) (a' := ?_) #[true, true, true, true, true, true, true, true, false, false, false, false] rfl rfl (by kernel_rfl) (fun _ _ _ h => h) (Or.inl ⟨by rfl, ?_⟩) hHeld ?_ ?_
          rotate_left
          · rintro w' ⟨s0, s1, s2⟩
            go_simp
            with_reducible rfl
          rotate_left
          · simp only [Act.put, List.setIfInBounds_toArray, List.set_cons_zero, List.set_cons_succ, i64_w, i32_w]
            rfl
          refine take_ (i := 8) (N := some 28) (v := ?_) (a' := ?_) #[true, true, true, true, true, true, true, true, true, false, false, false] rfl rfl (by kernel_rfl) (fun _ _ _ h => h) (Or.inl ⟨by rfl, ?_⟩) hHeld ?_ ?_
          rotate_left
          · rintro w' ⟨s0, s1, s2⟩
            go_simp
            with_reducible rfl
          rotate_left
          · simp only [Act.put, List.setIfInBounds_toArray, List.set_cons_zero, List.set_cons_succ, i64_w, i32_w]
            rfl
          refine take_ (i := 9) (N := some 29) (v := ?_) (a' := ?_) #[true, true, true, true, true, true, true, true, true, true, false, false] rfl rfl (by kernel_rfl) (fun _ _ _ h => h) (Or.inl ⟨by rfl, ?_⟩) hHeld ?_ ?_
          rotate_left
          · rintro w' ⟨s0, s1, s2⟩
            go_simp
            with_reducible rfl
          rotate_left
          · simp only [Act.put, List.setIfInBounds_toArray, List.set_cons_zero, List.set_cons_succ, i64_w, i32_w]
            rfl
          refine take_ (i := 10) (N := some 7) (v := ?_) (a' := ?_) #[true, true, true, true, true, true, true, true, true, true, true, false] rfl rfl (by kernel_rfl) (fun _ _ _ h => h) (Or.inl ⟨by rfl, ?_⟩) hHeld ?_ ?_
          rotate_left
          · rintro w' ⟨s0, s1, s2⟩
            go_simp
            with_reducible rfl
          rotate_left
          · simp only [Act.put, List.setIfInBounds_toArray, List.set_cons_zero, List.set_cons_succ, i64_w, i32_w]
            rfl
          refine take_ (i := 11) (N := some 8) (v := ?_) (a' := ?_) #[true, true, true, true, true, true, true, true, true, true, true, true] rfl rfl (by kernel_rfl) (fun _ _ _ h => h) (Or.inl ⟨by rfl, ?_⟩) hHeld ?_ ?_
          rotate_left
          · rintro w' ⟨s0, s1, s2⟩
            go_simp
            with_reducible rfl
          rotate_left
          · simp only [Act.put, List.setIfInBounds_toArray, List.set_cons_zero, List.set_cons_succ, i64_w, i32_w]
            rfl
          refine done_ (by kernel_rfl) ?_
          clear hl hHeld s0 n0 n2
          have HR := Aside0.mk hr.out
          clear hr hsp
          go_wp2_with fail
          go_returns
          refine ⟨below_step (pw_below_drewN (below_alloc HR.out.bel _) 1) (Below.refl _ _), .inr (.inl ⟨HA.out, fun hp => ?_, rfl⟩)⟩
          have hxm : x.name ∈ (L.take i).map (·.name) := by rw [← HR.out.names]; exact List.mem_map.2 ⟨x, hx, rfl⟩
          obtain ⟨y, hy, hyn⟩ := List.mem_map.1 hxm
          have h3 := List.take_append_drop i L
          rw [← h3, List.pairwise_append] at hp
          exact hp.2.2 y hy _ HMEM.out (by rw [hyn, hxn, HN.out.1])
      · have hltb : decide ((i : Int) < (L.length : Int)) = false := decide_eq_false (by omega)
        have HR := Aside0.mk hr.out
        clear hr
        go_wp2_with fail
        go_returns
        have hlen : L.take i = L := List.take_of_length_le (by omega)
        refine ⟨HR.out.bel, .inr (.inr ⟨HA.out, by have := HR.out.apart; rw [hlen] at this; exact this, w1.heap.size + 1, w1.heap.size, S, rfl, HR.out.sp, by rw [HR.out.names, hlen], by rw [HR.out.bytes, hlen], HR.out.free, HR.out.up⟩)⟩
end Go.Proofs.Ytkjliijcnllohaa.S
