/- heap: fixed, Clone, cells, place. -/
import Derived.Test.YtlghnldlkbgajaaHHeap
namespace Go.Proofs.Ytlghnldlkbgajaa.S
open Go.RowKit Go.Proofs.YtlghnldlkbgajaaW.PrintWords Go.Proofs.YtlghnldlkbgajaaW.PrintLast Go.Proofs.YtlghnldlkbgajaaW.PrintMore
set_option linter.unusedVariables false
set_option linter.unusedSimpArgs false

def shapes : Value := .agg #[.int .i64 1, .int .i64 2, .int .i64 2, .int .i64 (-1), .int .i64 6, .int .i64 3, .int .i64 7, .int .i64 2, .int .i64 8, .int .i64 4]
set_option maxRecDepth 100000 in
theorem shape0 (w : World) : (Instr.index 96 shapes (.int .i64 0)).run Try.prog w = .ok (.agg #[.int .i64 1, .int .i64 2]) w := by
  unfold shapes
  simp [Instr.index, run_underlying Try.underlying96, go_sem]
  try rfl
set_option maxRecDepth 100000 in
theorem shape1 (w : World) : (Instr.index 96 shapes (.int .i64 1)).run Try.prog w = .ok (.agg #[.int .i64 2, .int .i64 (-1)]) w := by
  unfold shapes
  simp [Instr.index, run_underlying Try.underlying96, go_sem]
  try rfl
set_option maxRecDepth 100000 in
theorem fixed1 (w : World) : Calls Try.prog 33 #[.int .i64 1] w fun e w' => e = .returned (.tuple #[.int .i64 2, .bool true]) ∧ Below w.heap.size w w' := by
  have hu95 := Try.underlying95
  have hs0 := shape0
  have hs1 := shape1
  unfold shapes at hs0 hs1
  go_enter Try.func33, Try.ntmps33
  go_wp2_with fail
  go_loopw [12] (fun v wr => v = .int .i64 0 ∧ Aside0 (Below w.heap.size w wr)) (fun v wr => 2 - (intOf v).toNat)
  case atStart => exact ⟨rfl, ⟨Below.refl _ _⟩⟩
  case round =>
    obtain ⟨rfl, HB⟩ := hrel
    go_wp2_with fail
    go_returns
    exact ⟨rfl, HB.out.alloc HB.out.size _⟩
set_option maxRecDepth 100000 in
theorem fixed2 (w : World) : Calls Try.prog 33 #[.int .i64 2] w fun e w' => e = .returned (.tuple #[.int .i64 (-1), .bool true]) ∧ Below w.heap.size w w' := by
  have hu95 := Try.underlying95
  have hs0 := shape0
  have hs1 := shape1
  unfold shapes at hs0 hs1
  go_enter Try.func33, Try.ntmps33
  go_wp2_with fail
  go_loopw [12] (fun v wr => (v = .int .i64 0 ∨ v = .int .i64 1) ∧ Aside0 (Below w.heap.size w wr)) (fun v wr => 2 - (intOf v).toNat)
  case atStart => exact ⟨.inl rfl, ⟨Below.refl _ _⟩⟩
  case round =>
    obtain ⟨hv, HB⟩ := hrel
    rcases hv with rfl | rfl
    · have HB2 := Aside0.mk (HB.out.alloc HB.out.size (.cells #[.int .i64 1, .int .i64 2] 95))
      go_wp2_with fail
      go_roundw
      case rel => exact ⟨.inr (by go_num), HB2⟩
      case measure => simp [intOf]
    · go_wp2_with fail
      go_returns
      exact ⟨rfl, HB.out.alloc HB.out.size _⟩

theorem word_info : (Try.prog.info? 28).map (fun i => (i.zero, i.size, i.bytes)) = some (some (.int .i64 0), 1, 8) := by kernel_rfl
set_option maxRecDepth 100000 in
set_option maxHeartbeats 1000000 in
theorem clone_ok {w : World} {a : Addr} {c : Nat} {xs : List Int} (hlen : xs.length ≤ 1000) (hne : 0 < xs.length) (hc : ∀ i, i < xs.length → w.cell? (a.add i) = some (.int .i64 (xs.getD i 0))) :
    Calls Try.prog 35 #[.slice (some a) xs.length c] w fun e w' => ∃ fb fc, e = .returned (.slice (some ⟨fb, 0, none⟩) xs.length fc) ∧ Row w' fb xs ∧ w.heap.size ≤ fb ∧ Below w.heap.size w w' := by
  obtain ⟨i0, hi, hz0, hz1, hz2⟩ := info_parts word_info
  have q33 : ∀ (w : World) (a : Option Addr) (n c n' c' : Nat), (binOp .eql 33 (.slice a n c) (.slice none n' c')).run Try.prog w = .ok (.bool a.isNone) w := fun w a n c n' c' => Lib.run_eql_slice_nil w _ _ a n c n' c' Try.underlying33
  have A := Aside0.mk hc
  clear hc
  go_enter Try.func35, Try.ntmps35
  go_wp2_with (at_builtin; refine wpList_append_own _ rfl _ _ 33 rfl w.heap.size 28 i0 (.int .i64 0) 1 8 Try.underlying33 hi hz0 hz1 hz2 rfl (by decide) _ _ _ rfl (World.ownsRow_made w #[] 0 (Nat.le_refl _) (Nat.zero_le _) rfl) a xs.length c (xs.map (Value.int .i64)) rfl ?qc1 ?qc2 ?qc3 ?qc4 ?qc5 ?qc6 ?_)
  case qc1 => simp
  case qc2 =>
    intro j u hj
    have hjn : j < xs.length := by
      have := (List.getElem?_eq_some_iff.1 hj).1
      simpa using this
    refine Lib.cell?_alloc_some _ ?_
    rw [A.out j hjn]
    have e : (xs.map (Value.int .i64))[j]? = some (Value.int .i64 (xs.getD j 0)) := by simp [List.getD, List.getElem?_eq_getElem (show j < xs.length by omega)]
    rw [e] at hj
    exact hj
  case qc3 => intro u hu; obtain ⟨x, _, rfl⟩ := List.mem_map.1 hu; rfl
  case qc4 => unfold maxLen; omega
  case qc5 => omega
  case qc6 => simp
  intro v' w1 hown hgrow hnil
  have HO := Aside0.mk hown
  have HG := Aside0.mk hgrow
  clear hown hgrow hnil
  go_wp2
  go_returns
  have hown : w1.ownsRow w.heap.size 28 1 v' xs.length (xs.map (Value.int .i64)) := by simpa using HO.out
  rcases hown.2 with ⟨h1, h2⟩ | ⟨g, cap, cur, h1, h2, h3, h4, h5, h6, h7⟩
  · omega
  · subst h1
    refine ⟨g, cap, rfl, ⟨cur, h3, fun i hi => ?_⟩, by omega, ((Below.refl _ w).alloc (Nat.le_refl _) _).grown HG.out (by simp) (by intro k hk; simp [Value.ownBlock] at hk; omega)⟩
    have h8 : (cur.toList.take xs.length)[i]? = (xs.map (Value.int .i64))[i]? := by simpa using congrArg (·[i]?) h7
    rw [List.getElem?_take, if_pos hi] at h8
    rw [← Array.getElem?_toList, h8]
    simp [List.getD, List.getElem?_eq_getElem hi]

set_option maxRecDepth 100000 in
theorem cells_ok {w : World} {t n c : Nat} {A : Option Addr} {kd : Int} (hn : n ≤ 1000) (h : w.heap[t]? = some (.cells #[.int .i64 kd, .slice A n c, .string ⟨#[]⟩, .bool false, .bool false] 78 (0, 0))) :
    Calls Try.prog 56 #[ptr t] w fun e w' => e = .returned (.int .i64 (1 + (n : Int))) ∧ Fr [] w w' := by
  have c1 : w.cell? ⟨t, 1, none⟩ = some (.slice A n c) := (blk_cell h 1).trans rfl
  have c2 : w.cell? ⟨t, 2, none⟩ = some (.string ⟨#[]⟩) := (blk_cell h 2).trans rfl
  unfold ptr
  clear h
  have e1 : IntKind.i64.wrap (1 + (n : Int)) = 1 + (n : Int) := by rw [IntKind.wrap_i64]; omega
  have e2 : IntKind.i64.wrap (IntKind.i64.wrap 7 / 8) = 0 := by decide
  go_enter Try.func56, Try.ntmps56
  go_wp2_with fail
  go_region_held3 (fun w' => w'.cell? ⟨t, 1, none⟩ = some (.slice A n c) ∧ w'.cell? ⟨t, 2, none⟩ = some (.string ⟨#[]⟩)) (first | exact ⟨c1, c2⟩) (fail)
  go_wp2_with fail
  go_returns
  refine ⟨?_, Fr.drew _ _⟩
  show Ending.returned (.int .i64 (IntKind.i64.wrap (1 + (n : Int) + IntKind.i64.wrap ((IntKind.i64.wrap 7).tdiv 8)))) = _
  rw [show IntKind.i64.wrap ((IntKind.i64.wrap 7).tdiv 8) = 0 from by decide, Int.add_zero, e1]

/-- x, put into the map under the next word, beside n cells more. -/
def Ob.named (x : Ob) (nx : Int) : Ob := ⟨nx, x.t, x.kind, x.fs, x.fb, x.fc⟩
theorem put_new {m : List (Int × Value)} {s : Int} (h : get? m s = none) (v : Value) : put m s v = m ++ [(s, v)] := by
  unfold put; rw [h]; rfl
/-- The world behind place: the next word, the map, the room. -/
theorem HpAt.placed {w w1 w2 w3 : World} {g b rb rc : Nat} {L : List Ob} {nx r u n : Int} (h : HpAt w g b rb rc L nx r u) (x : Ob) (hx : w.heap[x.t]? = some x.obj) (hrow : Row w x.fb x.fs) (hfar : x.fb ≠ rb)
    (e1 : w1 = w.setCell ⟨g, 1, none⟩ (.int .i64 (nx + 2))) (hm : MapIs w2 b (put (L.map Ob.pair) nx (ptr x.t))) (hb : But1 b w1 w2) (e3 : w3 = w2.setCell ⟨g, 5, none⟩ (.int .i64 (u + n))) :
    HpAt w3 g b rb rc (L ++ [x.named nx]) (nx + 2) r (u + n) ∧ Fr [g, b] w w3 := by
  have hgb : g ≠ b := fun e => by
    subst e
    obtain ⟨es, cl, h1, _⟩ := h.mp
    rw [h.hp] at h1; simp [hpObj] at h1
  have hgr : rb ≠ g := fun e => by
    subst e
    obtain ⟨cur, h1, _⟩ := h.rt
    rw [h.hp] at h1; simp [hpObj] at h1
  have hbr : rb ≠ b := fun e => by
    subst e
    obtain ⟨cur, h1, _⟩ := h.rt
    exact h.mp.norow _ _ _ h1
  have f1 : Fr [g, b] w w1 := by rw [e1]; exact (Fr.set w g 1 _).mono (fun k _ hk => by simp at hk ⊢; exact .inl hk)
  have f2 : Fr [g, b] w1 w2 := (Fr.but1 hb).mono (fun k _ hk => by simp at hk ⊢; exact .inr hk)
  have f3 : Fr [g, b] w2 w3 := by rw [e3]; exact (Fr.set w2 g 5 _).mono (fun k _ hk => by simp at hk ⊢; exact .inl hk)
  have f := (f1.trans f2).trans f3
  have hmiss : get? (L.map Ob.pair) nx = none := h.miss (fun y hy e => by have := h.low y hy; omega)
  rw [put_new hmiss] at hm
  have ot : ∀ y : Ob, w.heap[y.t]? = some y.obj → y.t ∉ [g, b] := fun y hy => by
    simp only [List.mem_cons, List.not_mem_nil, or_false, not_or]
    exact ⟨fun e => by rw [e, h.hp] at hy; simp [hpObj, Ob.obj] at hy, fun e => by rw [e] at hy; exact h.mp.norow _ _ _ hy⟩
  have or' : ∀ (c : Nat) (l : List Int), Row w c l → c ∉ [g, b] := fun c l hy => by
    obtain ⟨cur, h1, _⟩ := hy
    simp only [List.mem_cons, List.not_mem_nil, or_false, not_or]
    exact ⟨fun e => by rw [e, h.hp] at h1; simp [hpObj] at h1, fun e => by rw [e] at h1; exact h.mp.norow _ _ _ h1⟩
  have hp1 : w1.heap[g]? = some (hpObj b rb rc (nx + 2) u) := by rw [e1]; exact blk_put h.hp 1 _ rfl
  have hp2 : w2.heap[g]? = some (hpObj b rb rc (nx + 2) u) := (hb.block g hgb).trans hp1
  have hp3 : w3.heap[g]? = some (hpObj b rb rc (nx + 2) (u + n)) := by rw [e3]; exact blk_put hp2 5 _ rfl
  refine ⟨⟨hp3, ?_, h.rt.fr f (by simp [hgr, hbr]), ?_, ?_, ?_, ?_⟩, f⟩
  · have : (L ++ [x.named nx]).map Ob.pair = L.map Ob.pair ++ [(nx, ptr x.t)] := by simp [Ob.pair, Ob.named]
    rw [this]
    exact hm.fr (T := [g]) (by rw [e3]; exact Fr.set w2 g 5 _) (by simpa using fun e => hgb e.symm)
  · intro y hy
    rcases List.mem_append.1 hy with hy | hy
    · exact f.get (h.ob y hy) (ot y (h.ob y hy))
    · obtain rfl := List.mem_singleton.1 hy
      exact f.get hx (ot x hx)
  · intro y hy
    rcases List.mem_append.1 hy with hy | hy
    · exact (h.row y hy).fr f (or' _ _ (h.row y hy))
    · obtain rfl := List.mem_singleton.1 hy
      exact hrow.fr f (or' _ _ hrow)
  · intro y hy
    rcases List.mem_append.1 hy with hy | hy
    · exact h.far y hy
    · obtain rfl := List.mem_singleton.1 hy
      exact hfar
  · intro y hy
    rcases List.mem_append.1 hy with hy | hy
    · have := h.low y hy; omega
    · obtain rfl := List.mem_singleton.1 hy
      show nx < nx + 2
      omega
set_option maxRecDepth 100000 in
set_option maxHeartbeats 1000000 in
theorem place_ok {w : World} {g b rb rc : Nat} {L : List Ob} {nx r u : Int} (h : HpAt w g b rb rc L nx r u) (x : Ob) (hx : w.heap[x.t]? = some x.obj) (hrow : Row w x.fb x.fs) (hfar : x.fb ≠ rb) (hfs : x.fs.length ≤ 4) (hu0 : 0 ≤ u) (hu : u + 1 + x.fs.length ≤ 32) (hnx : 0 ≤ nx ∧ nx ≤ 1000000) :
    Calls Try.prog 34 #[ptr g, ptr x.t] w fun e w' => e = .returned (.tuple #[.int .i64 nx, .int .i64 0]) ∧ HpAt w' g b rb rc (L ++ [x.named nx]) (nx + 2) r (u + (1 + x.fs.length)) ∧ Fr [g, b] w w' := by
  have HC := Aside0.mk (cells_ok (w := w) (t := x.t) (kd := x.kind) (by omega) hx)
  have H := Aside0.mk h
  have HX := Aside0.mk hx
  have HR := Aside0.mk hrow
  have HF := Aside0.mk hfar
  clear h hx hrow hfar
  obtain ⟨n, hn⟩ : ∃ n : Int, n = 1 + (x.fs.length : Int) := ⟨_, rfl⟩
  rw [← hn] at HC
  rw [← hn]
  have hn0 : 0 < n := by omega
  have hn5 : n ≤ 5 := by omega
  have hun : u + n ≤ 32 := by omega
  have HN := Aside0.mk hn
  clear hn hfs hu
  have b1 : decide (32 < n) = false := decide_eq_false (by omega)
  have b2 : decide (32 < u + n) = false := decide_eq_false (by omega)
  have e1 : IntKind.i64.wrap (u + n) = u + n := by rw [IntKind.wrap_i64]; omega
  have e2 : IntKind.i64.wrap (nx + 2) = nx + 2 := by rw [IntKind.wrap_i64]; omega
  unfold ptr
  go_enter Try.func34, Try.ntmps34
  go_wp2_with fail
  refine HC.out.mono ?_
  rintro e w1 ⟨rfl, hf1⟩
  clear HC
  have H1 := Aside0.mk (H.out.fr0 hf1)
  have HX1 := Aside0.mk (hf1.get HX.out (by simp))
  have HR1 := Aside0.mk (HR.out.fr hf1 (by simp))
  have HF1 := Aside0.mk hf1
  clear hf1 H HX HR
  have c9 := H1.out.c9
  have c3 := H1.out.c3
  have c5 := H1.out.c5
  go_wp2_with fail
  go_region_held3 (fun w' => w'.cell? ⟨g, 5, none⟩ = some (.int .i64 u) ∧ w'.cell? ⟨g, 3, none⟩ = some (.int .i64 32)) (first | exact ⟨c5, c3⟩) (fail)
  clear c9 c3 c5
  have H2 := Aside0.mk (H1.out.fr0 (Fr.drew [] w1))
  have HX2 := Aside0.mk ((Fr.drew [] w1).get HX1.out (by simp))
  have HR2 := Aside0.mk (HR1.out.fr (Fr.drew [] w1) (by simp))
  have HF2 := Aside0.mk (HF1.out.trans (Fr.drew [] w1))
  clear H1 HX1 HR1 HF1
  generalize w1.drew = W at *
  have c0 := H2.out.c0
  have c1 := H2.out.c1
  have f1 := H2.out.fz 1
  have hbg : b ∉ [g] := by
    simp only [List.mem_singleton]
    intro e
    obtain ⟨es, cl, h1, _⟩ := H2.out.mp
    rw [e, H2.out.hp] at h1; simp [hpObj] at h1
  obtain ⟨w2, hu, hm, hb⟩ := map_update (P := Try.prog) Try.underlying63 Try.underlying28 (H2.out.mp.fr (Fr.set W g 1 (.int .i64 (nx + 2))) hbg) nx (ptr x.t)
  unfold ptr at hu
  have hgb : g ≠ b := fun e => hbg (by simp [e])
  have hp2 : w2.heap[g]? = some (hpObj b rb rc (nx + 2) u) := (hb.block g hgb).trans (blk_put H2.out.hp 1 _ rfl)
  have c0' : (W.setCell ⟨g, 1, none⟩ (.int .i64 (nx + 2))).cell? ⟨g, 0, none⟩ = some (.map (some b)) := (blk_cell (blk_put H2.out.hp 1 (.int .i64 (nx + 2)) rfl : (W.setCell ⟨g, 1, none⟩ (.int .i64 (nx + 2))).heap[g]? = some (hpObj b rb rc (nx + 2) u)) 0).trans rfl
  have c5 : w2.cell? ⟨g, 5, none⟩ = some (.int .i64 u) := (blk_cell hp2 5).trans rfl
  have f5 : w2.frozen? ⟨g, 5, none⟩ = false := blk_frozen hp2 5
  have HM := Aside0.mk hm
  have HB := Aside0.mk hb
  clear hm hb hp2 hgb hbg
  go_wp2_with fail
  refine start_ (n := 11) (S := (fun w' => w'.cell? ⟨g, 5, none⟩ = some (.int .i64 u))) (ds := [10]) #[false, false, false, false, false, false, false, false, false, false, false] (by kernel_rfl) rfl rfl c5 (fun hHeld => ?_)
  refine take_ (i := 0) (N := some 97) (v := ?_) (a' := ?_) #[true, false, false, false, false, false, false, false, false, false, false] rfl rfl (by kernel_rfl) (fun _ _ _ h => h) (Or.inl ⟨by rfl, ?_⟩) hHeld ?_ ?_
  rotate_left
  · rintro w' s0
    go_simp
    with_reducible rfl
  rotate_left
  · simp only [Act.put, List.setIfInBounds_toArray, List.set_cons_zero, List.set_cons_succ, i64_w, i32_w]
    rfl
  refine take_ (i := 1) (N := some 98) (v := ?_) (a' := ?_) #[true, true, false, false, false, false, false, false, false, false, false] rfl rfl (by kernel_rfl) (fun _ _ _ h => h) (Or.inl ⟨by rfl, ?_⟩) hHeld ?_ ?_
  rotate_left
  · rintro w' s0
    go_simp
    with_reducible rfl
  rotate_left
  · simp only [Act.put, List.setIfInBounds_toArray, List.set_cons_zero, List.set_cons_succ, i64_w, i32_w]
    rfl
  refine take_ (i := 2) (N := some 99) (v := ?_) (a' := ?_) #[true, true, true, false, false, false, false, false, false, false, false] rfl rfl (by kernel_rfl) (fun _ _ _ h => h) (Or.inl ⟨by rfl, ?_⟩) hHeld ?_ ?_
  rotate_left
  · rintro w' s0
    go_simp
    with_reducible rfl
  rotate_left
  · simp only [Act.put, List.setIfInBounds_toArray, List.set_cons_zero, List.set_cons_succ, i64_w, i32_w]
    rfl
  refine take_ (i := 3) (N := some 100) (v := ?_) (a' := ?_) #[true, true, true, true, false, false, false, false, false, false, false] rfl rfl (by kernel_rfl) (fun _ _ _ h => h) (Or.inl ⟨by rfl, ?_⟩) hHeld ?_ ?_
  rotate_left
  · rintro w' s0
    go_simp
    with_reducible rfl
  rotate_left
  · simp only [Act.put, List.setIfInBounds_toArray, List.set_cons_zero, List.set_cons_succ, i64_w, i32_w]
    rfl
  refine take_ (i := 4) (N := some 101) (v := ?_) (a' := ?_) #[true, true, true, true, true, false, false, false, false, false, false] rfl rfl (by kernel_rfl) (fun _ _ _ h => h) (Or.inl ⟨by rfl, ?_⟩) hHeld ?_ ?_
  rotate_left
  · rintro w' s0
    go_simp
    with_reducible rfl
  rotate_left
  · simp only [Act.put, List.setIfInBounds_toArray, List.set_cons_zero, List.set_cons_succ, i64_w, i32_w]
    rfl
  refine take_ (i := 5) (N := some 102) (v := ?_) (a' := ?_) #[true, true, true, true, true, true, false, false, false, false, false] rfl rfl (by kernel_rfl) (fun _ _ _ h => h) (Or.inl ⟨by rfl, ?_⟩) hHeld ?_ ?_
  rotate_left
  · rintro w' s0
    go_simp
    with_reducible rfl
  rotate_left
  · simp only [Act.put, List.setIfInBounds_toArray, List.set_cons_zero, List.set_cons_succ, i64_w, i32_w]
    rfl
  refine take_ (i := 6) (N := some 103) (v := ?_) (a' := ?_) #[true, true, true, true, true, true, true, false, false, false, false] rfl rfl (by kernel_rfl) (fun _ _ _ h => h) (Or.inl ⟨by rfl, ?_⟩) hHeld ?_ ?_
  rotate_left
  · rintro w' s0
    go_simp
    with_reducible rfl
  rotate_left
  · simp only [Act.put, List.setIfInBounds_toArray, List.set_cons_zero, List.set_cons_succ, i64_w, i32_w]
    rfl
  refine take_ (i := 7) (N := some 104) (v := ?_) (a' := ?_) #[true, true, true, true, true, true, true, true, false, false, false] rfl rfl (by kernel_rfl) (fun _ _ _ h => h) (Or.inl ⟨by rfl, ?_⟩) hHeld ?_ ?_
  rotate_left
  · rintro w' s0
    go_simp
    with_reducible rfl
  rotate_left
  · simp only [Act.put, List.setIfInBounds_toArray, List.set_cons_zero, List.set_cons_succ, i64_w, i32_w]
    rfl
  refine take_ (i := 8) (N := some 105) (v := ?_) (a' := ?_) #[true, true, true, true, true, true, true, true, true, false, false] rfl rfl (by kernel_rfl) (fun _ _ _ h => h) (Or.inl ⟨by rfl, ?_⟩) hHeld ?_ ?_
  rotate_left
  · rintro w' s0
    go_simp
    with_reducible rfl
  rotate_left
  · simp only [Act.put, List.setIfInBounds_toArray, List.set_cons_zero, List.set_cons_succ, i64_w, i32_w]
    rfl
  refine take_ (i := 9) (N := some 106) (v := ?_) (a' := ?_) #[true, true, true, true, true, true, true, true, true, true, false] rfl rfl (by kernel_rfl) (fun _ _ _ h => h) (Or.inl ⟨by rfl, ?_⟩) hHeld ?_ ?_
  rotate_left
  · rintro w' s0
    go_simp
    with_reducible rfl
  rotate_left
  · simp only [Act.put, List.setIfInBounds_toArray, List.set_cons_zero, List.set_cons_succ, i64_w, i32_w]
    rfl
  refine last_ (i := 10) (N := none) #[true, true, true, true, true, true, true, true, true, true, true] rfl rfl (by kernel_rfl) (by decide) (fun K hK => ?_)
  refine skip_ (w1 := ?_) (by rfl) rfl ?_ ?_
  rotate_left
  · go_simp
    rfl
  refine hK.out _ _ ?_
  clear hK K
  refine done_ (by kernel_rfl) ?_
  go_wp2_with fail
  go_returns
  have hpl := H2.out.placed (n := n) x HX2.out HR2.out HF.out rfl HM.out HB.out rfl
  exact ⟨rfl, hpl.1.fr0 (Fr.drew [] _), ((HF2.out.mono (by simp)).trans hpl.2).trans (Fr.drew _ _)⟩
end Go.Proofs.Ytlghnldlkbgajaa.S
