/- heap: SetRoot, Push, New. -/
import Derived.Test.YtlghnldlkbgajaaHMake
namespace Go.Proofs.Ytlghnldlkbgajaa.S
open Go.RowKit Go.Proofs.YtlghnldlkbgajaaW.PrintWords Go.Proofs.YtlghnldlkbgajaaW.PrintLast Go.Proofs.YtlghnldlkbgajaaW.PrintMore
set_option linter.unusedVariables false
set_option linter.unusedSimpArgs false

theorem HpAt.rooted {w : World} {g b rb rc : Nat} {L : List Ob} {nx r u : Int} (h : HpAt w g b rb rc L nx r u) (x : Int) : HpAt (w.setCell ⟨rb, 0, none⟩ (.int .i64 x)) g b rb rc L nx x u ∧ Fr [rb] w (w.setCell ⟨rb, 0, none⟩ (.int .i64 x)) := by
  have hgr : g ≠ rb := fun e => by
    subst e
    obtain ⟨cur, h1, _⟩ := h.rt
    rw [h.hp] at h1; simp [hpObj] at h1
  have hbr : b ≠ rb := fun e => by
    subst e
    obtain ⟨cur, h1, _⟩ := h.rt
    exact h.mp.norow _ _ _ h1
  have f := Fr.set w rb 0 (.int .i64 x)
  refine ⟨⟨f.get h.hp (by simpa using hgr), h.mp.fr f (by simpa using hbr), ?_, fun y hy => f.get (h.ob y hy) ?_, fun y hy => (h.row y hy).fr f (by simpa using h.far y hy), h.far, h.low⟩, f⟩
  · obtain ⟨cur, h1, h2⟩ := h.rt
    refine ⟨_, blk_put h1 0 (.int .i64 x) rfl, fun i hi => ?_⟩
    obtain rfl : i = 0 := by simp at hi; omega
    have h3 := h2 0 (by simp)
    have hlt := (Array.getElem?_eq_some_iff.1 h3).1
    simp [Array.getElem?_setIfInBounds, hlt]
  · intro e
    have e : y.t = rb := by simpa using e
    obtain ⟨cur, h1, _⟩ := h.rt
    have := h.ob y hy
    rw [e, h1] at this
    simp [Ob.obj] at this
set_option maxRecDepth 100000 in
theorem setroot_ok {w : World} {g b rb rc : Nat} {L : List Ob} {nx r u : Int} (h : HpAt w g b rb rc L nx r u) {x : Int} (hx : Th L x) : Calls Try.prog 12 #[ptr g, .int .i64 0, .int .i64 x] w fun e w' => e = .returned (.int .i64 0) ∧ HpAt w' g b rb rc L nx x u ∧ Fr [rb] w w' := by
  have c2 := h.c2
  have r0 := h.r0
  have f0 : w.frozen? ⟨rb, 0, none⟩ = false := h.rt.fz 0
  have H := Aside0.mk h
  have HX := Aside0.mk hx
  unfold ptr
  clear h hx
  go_enter Try.func12, Try.ntmps12
  go_wp2_with fail
  refine (made_ok H.out).mono ?_
  rintro e w1 ⟨rfl, rfl⟩
  go_wp2_with fail
  refine (there_any H.out HX.out).mono ?_
  rintro e w1 ⟨rfl, rfl⟩
  go_wp2_with fail
  go_returns
  exact ⟨rfl, H.out.rooted x⟩

/-- A heap behind New. -/
structure HpNew (w : World) (g b : Nat) : Prop where
  hp : w.heap[g]? = some (.cells #[.map (some b), .int .i64 2, .slice none 0 0, .int .i64 32, .int .i64 1000, .int .i64 0, .int .i64 0, .int .i64 0, .int .i64 0, .bool false] 66 (0, 0))
  mp : MapIs w b []
theorem pair0 (w : World) : (Instr.index 64 (.agg #[.int .i64 32, .int .i64 1000]) (.int .i64 0)).run Try.prog w = .ok (.int .i64 32) w := by
  simp [Instr.index, run_underlying Try.underlying64, go_sem]
  try rfl
theorem pair1 (w : World) : (Instr.index 64 (.agg #[.int .i64 32, .int .i64 1000]) (.int .i64 1)).run Try.prog w = .ok (.int .i64 1000) w := by
  simp [Instr.index, run_underlying Try.underlying64, go_sem]
  try rfl
set_option maxRecDepth 100000 in
theorem new_ok (w : World) : Calls Try.prog 8 #[.int .i64 32, .int .i64 1000] w fun e w' => ∃ g b, e = .returned (.tuple #[ptr g, .int .i64 0]) ∧ HpNew w' g b ∧ w.heap.size ≤ g ∧ w.heap.size ≤ b ∧ Below w.heap.size w w' := by
  have hp0 := pair0
  have hp1 := pair1
  have hmm := @run_makeMap Try.prog
  go_enter Try.func8, Try.ntmps8
  go_wp2_with fail
  go_loopw [11] (fun v wr => (∃ i : Nat, v = .int .i64 i ∧ Aside0 (i ≤ 2)) ∧ Aside0 (wr = w)) (fun v wr => 2 - (intOf v).toNat)
  case atStart => exact ⟨⟨0, rfl, ⟨Nat.zero_le _⟩⟩, ⟨rfl⟩⟩
  case round =>
    obtain ⟨⟨i, rfl, hi⟩, HW⟩ := hrel
    obtain rfl := HW.out
    have hi2 := hi.out
    match i, hi2 with
    | 0, _ =>
      go_wp2_with fail
      go_roundw
      case rel => exact ⟨⟨1, by go_num, ⟨by decide⟩⟩, ⟨trivial⟩⟩
      case measure => simp [intOf]
    | 1, _ =>
      go_wp2_with fail
      go_roundw
      case rel => exact ⟨⟨2, by go_num, ⟨by decide⟩⟩, ⟨trivial⟩⟩
      case measure => simp [intOf]
    | 2, _ =>
      go_wp2_with fail
      go_returns
      have hm := MapIs.new wr
      have hs : (wr.alloc (.map #[] 0)).heap.size = wr.heap.size + 1 := by simp
      refine ⟨wr.heap.size + 1, rfl, wr.heap.size, ⟨?_, hm.fr (Fr.alloc [] _ _) (by simp)⟩, Nat.le_succ _, Nat.le_refl _, ((Below.refl _ _).alloc (Nat.le_refl _) _).alloc (by omega) _⟩
      rw [← hs]
      exact heap_alloc_new _ _
set_option maxRecDepth 100000 in
set_option maxHeartbeats 1000000 in
theorem push_ok {w : World} {g b : Nat} (h : HpNew w g b) : Calls Try.prog 9 #[ptr g, .int .i64 0] w fun e w' => e = .returned (.int .i64 0) ∧ ∃ rb rc, HpAt w' g b rb rc [] 2 0 0 ∧ w.heap.size ≤ rb ∧ Fr [g] w w' := by
  obtain ⟨i0, hi, hz0, hz1, hz2⟩ := info_parts word_info
  have c0 : w.cell? ⟨g, 0, none⟩ = some (.map (some b)) := (blk_cell h.hp 0).trans rfl
  have c2 : w.cell? ⟨g, 2, none⟩ = some (.slice none 0 0) := (blk_cell h.hp 2).trans rfl
  have hmn : (binOp .neq 63 (.map (some b)) (.map none)).run Try.prog w = .ok (.bool true) w := run_neq_map_nil w 63 28 75 (some b) Try.underlying63
  have H := Aside0.mk h
  have hmade : Calls Try.prog 31 #[.pointer (some ⟨g, 0, none⟩)] w fun e w' => e = .returned (.bool true) ∧ w' = w := by
    clear h H
    go_enter Try.func31, Try.ntmps31
    go_wp2
    go_returns
    exact ⟨rfl, rfl⟩
  have HM := Aside0.mk hmade
  unfold ptr
  clear h hmade
  go_enter Try.func9, Try.ntmps9
  go_wp2_with fail
  refine HM.out.mono ?_
  rintro e w1 ⟨rfl, rfl⟩
  go_wp2_with fail
  refine (there_zero _).mono ?_
  rintro e w1 ⟨rfl, rfl⟩
  go_wp2_with (at_builtin; refine wpList_append_own _ rfl _ _ 33 rfl w1.heap.size 28 i0 (.int .i64 0) 1 8 Try.underlying33 hi hz0 hz1 hz2 rfl (by decide) (.slice none 0 0) 0 [] rfl (World.ownsRow_nil _ _ _ _) ⟨w1.heap.size, 0, none⟩ 1 1 [.int .i64 0] rfl ?qc1 ?qc2 ?qc3 ?qc4 ?qc5 ?qc6 ?_)
  case qc1 => rfl
  case qc2 =>
    intro j u hj
    cases j with
    | zero =>
      rw [show (⟨w1.heap.size, 0, none⟩ : Addr).add 0 = ⟨w1.heap.size, 0, none⟩ from by simp [Addr.add]]
      exact (blk_cell (heap_alloc_new w1 _) 0).trans hj
    | succ j => simp at hj
  case qc3 => intro u hu; simp at hu; subst hu; rfl
  case qc4 => unfold maxLen; omega
  case qc5 => omega
  case qc6 => simp
  intro v' w2 hown hgrow hnil
  have hb2 : Below w1.heap.size w1 w2 := ((Below.refl _ w1).alloc (Nat.le_refl _) _).grown hgrow (by simp) (by intro k hk; simp [Value.ownBlock] at hk)
  have hg2 := (Fr.ofBelow hb2 []).get H.out.hp (by simp)
  have HM2 := Aside0.mk (H.out.mp.fr (Fr.ofBelow hb2 []) (by simp))
  have HF2 := Aside0.mk (Fr.ofBelow hb2 [])
  have f2 : w2.frozen? ⟨g, 2, none⟩ = false := blk_frozen hg2 2
  have c2' : w2.cell? ⟨g, 2, none⟩ = some (.slice none 0 0) := (blk_cell hg2 2).trans rfl
  have HG2 := Aside0.mk hg2
  have HO := Aside0.mk hown
  have HL := Aside0.mk (blk_lt H.out.hp)
  clear hown hgrow hb2 hg2 hnil HM H c0 c2 hmn
  rcases HO.out.2 with ⟨h1, h2⟩ | ⟨rb, cap, cur, h1, h2, h3, h4, h5, h6, h7⟩
  · simp at h2
  · subst h1
    have HR := Aside0.mk (And.intro h2 (And.intro h3 h7))
    clear h2 h3 h4 h5 h6 h7
    go_wp2_with fail
    go_returns
    obtain ⟨h2, h3, h7⟩ := HR.out
    have hgr : rb ≠ g := by have := HL.out; omega
    have hbg : b ≠ g := fun e => by
      subst e
      obtain ⟨es, cl, h1, _⟩ := HM2.out
      rw [HG2.out] at h1; simp at h1
    have f := Fr.set w2 g 2 (.slice (some ⟨rb, 0, none⟩) 1 cap)
    refine ⟨rfl, rb, cap, ⟨blk_put HG2.out 2 _ rfl, HM2.out.fr f (by simpa using hbg), ⟨cur, f.get h3 (by simpa using hgr), fun i hi => ?_⟩, by simp, by simp, by simp, by simp⟩, h2, (HF2.out.mono (by simp)).trans f⟩
    obtain rfl : i = 0 := by simp at hi; omega
    have h8 : (cur.toList.take 1)[0]? = some (Value.int .i64 0) := congrArg (fun x : List Value => x[0]?) h7
    rw [List.getElem?_take, if_pos (by omega)] at h8
    rw [← Array.getElem?_toList, h8]
    rfl
end Go.Proofs.Ytlghnldlkbgajaa.S
