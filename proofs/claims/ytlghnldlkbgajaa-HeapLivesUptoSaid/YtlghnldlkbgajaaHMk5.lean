
/- heap: Set, Counts, New, whatever comes in. -/
import Derived.Test.YtlghnldlkbgajaaHMk4
namespace Go.Proofs.Ytlghnldlkbgajaa.S
open Go.RowKit Go.Proofs.YtlghnldlkbgajaaW.PrintWords Go.Proofs.YtlghnldlkbgajaaW.PrintLast Go.Proofs.YtlghnldlkbgajaaW.PrintMore
set_option linter.unusedVariables false
set_option linter.unusedSimpArgs false

/-- Whether a word is a young object's. -/
def youngB (L : List OW) (v : Int) : Bool := match L.find? fun o => decide (o.k = v) with | some y => decide (0 < y.o.kind) && !y.o.old | none => false
def setL (L : List OW) (x : OW) (i : Nat) (v : Int) : List OW :=
  if x.o.old = true ∧ youngB L v = true then upd (upd L x.k fun o => o.set i v) x.k fun o => { o with noted := true } else upd L x.k fun o => o.set i v
theorem youngB_upd {L : List OW} (k : Int) {f : PO → PO} (hf : ∀ o, (f o).kind = o.kind ∧ (f o).old = o.old) (v : Int) : youngB (upd L k f) v = youngB L v := by
  unfold youngB upd
  induction L with
  | nil => rfl
  | cons a L ih =>
    simp only [List.map_cons, List.find?_cons]
    have hk : (if a.k = k then { a with o := f a.o } else a).k = a.k := by split <;> rfl
    rw [hk]
    by_cases h : a.k = v
    · simp only [h, decide_true]
      split
      · show (decide (0 < (f a.o).kind) && !(f a.o).old) = _
        rw [(hf a.o).1, (hf a.o).2]
      · rfl
    · simp only [h, decide_false]
      exact ih
section
variable {w : World} {g b B : Nat} {R : Option Addr} {rc : Nat} {L : List OW} {h : HH}
theorem find_cases (L : List OW) (hp : L.Pairwise fun x y => x.k ≠ y.k) (v : Int) : (∃ y ∈ L, y.k = v ∧ youngB L v = (decide (0 < y.o.kind) && !y.o.old)) ∨ ((∀ y ∈ L, y.k ≠ v) ∧ youngB L v = false) := by
  unfold youngB
  cases hf : L.find? (fun o => decide (o.k = v)) with
  | none => exact .inr ⟨fun y hy e => (List.find?_eq_none.1 hf y hy) (by simpa using e), rfl⟩
  | some y => exact .inl ⟨y, List.mem_of_find?_eq_some hf, by simpa using List.find?_some hf, rfl⟩
set_option maxRecDepth 100000 in
theorem set_field (H : HW w g b B R rc L h) {k i v er : Int} (he : er = 1 ∨ er = 141) (hf : Calls Try.prog 14 #[ptr g, .int .i64 k, .int .i64 i] w fun e w' => e = .returned (.tuple #[.int .i64 0, .int .i64 er]) ∧ Below w.heap.size w w') :
    Calls Try.prog 28 #[ptr g, .int .i64 k, .int .i64 i, .int .i64 v] w fun e w' => e = .returned (.int .i64 er) ∧ Below w.heap.size w w' := by
  have HF := Aside0.mk hf
  clear hf H
  unfold ptr
  unfold ptr at HF
  rcases he with rfl | rfl
  · go_enter Try.func28, Try.ntmps28
    go_wp2_with fail
    refine HF.out.mono ?_
    rintro e w1 ⟨rfl, hb⟩
    have HB := Aside0.mk hb
    clear hb
    go_wp2_with fail
    go_returns
    exact ⟨rfl, HB.out⟩
  · go_enter Try.func28, Try.ntmps28
    go_wp2_with fail
    refine HF.out.mono ?_
    rintro e w1 ⟨rfl, hb⟩
    have HB := Aside0.mk hb
    clear hb
    go_wp2_with fail
    go_returns
    exact ⟨rfl, HB.out⟩
set_option maxRecDepth 100000 in
theorem set_word (H : HW w g b B R rc L h) {x : OW} (hx : x ∈ L) (hkind : x.o.kind ≠ 0) {i : Nat} (hi : i < x.o.fs.length) {v : Int} (hv : thereB L v = false) :
    Calls Try.prog 28 #[ptr g, .int .i64 x.k, .int .i64 i, .int .i64 v] w fun e w' => e = .returned (.int .i64 141) ∧ w' = w := by
  have HF := Aside0.mk (field_any H hx hkind hi)
  have HT := Aside0.mk (there_calls H v)
  rw [hv] at HT
  unfold ptr
  unfold ptr at HF HT
  clear H hx
  generalize x.k = xk at *
  generalize x.o.fs.getD i 0 = fv at *
  go_enter Try.func28, Try.ntmps28
  go_wp2_with fail
  refine HF.out.mono ?_
  rintro e w1 ⟨rfl, rfl⟩
  go_wp2_with fail
  refine HT.out.mono ?_
  rintro e w1 ⟨rfl, rfl⟩
  go_wp2_with fail
  go_returns
  exact ⟨rfl, rfl⟩
set_option maxRecDepth 100000 in
set_option maxHeartbeats 1000000 in
theorem set_calls (H : HW w g b B R rc L h) {x : OW} (hx : x ∈ L) (hkind : x.o.kind ≠ 0) {i : Nat} (hi : i < x.o.fs.length) {v : Int} (hv : thereB L v = true) :
    Calls Try.prog 28 #[ptr g, .int .i64 x.k, .int .i64 i, .int .i64 v] w fun e w' => e = .returned (.int .i64 0) ∧ HW w' g b B R rc (setL L x i v) h ∧ FrP (Foot g b R L) w w' := by
  have HF := Aside0.mk (field_any H hx hkind hi)
  have HFX := Aside0.mk (find_any H hx)
  have HT := Aside0.mk (there_calls H v)
  rw [hv] at HT
  have hne : x.o.fs ≠ [] := fun e => by rw [e] at hi; simp at hi
  obtain ⟨hA, hrow⟩ := H.row x hx hne
  have o1 : w.cell? ⟨x.t, 1, none⟩ = some (.slice x.A x.o.fs.length x.c) := (blk_cell (H.ob x hx) 1).trans rfl
  rw [hA] at o1
  have q0 := hrow.cell hi
  have qf := hrow.fz i
  have hil : (i : Int) < (x.o.fs.length : Int) := by omega
  have H1 := H.setField hx hne i v
  have hx1 := upd_at hx (fun o => o.set i v)
  obtain ⟨w1, hw1⟩ : ∃ w1, w1 = w.setCell ⟨x.fb, i, none⟩ (.int .i64 v) := ⟨_, rfl⟩
  rw [← hw1] at H1
  have fr1 : FrP (Foot g b R L) w w1 := by rw [hw1]; exact (FrP.ofFr (Fr.set w x.fb i (.int .i64 v))).mono (fun k _ hk => .inr (.inr (.inr ⟨x, hx, .inr ⟨hne, by simpa using hk⟩⟩)))
  have HW1 := Aside0.mk H1
  have HX1 := Aside0.mk hx1
  have HFR := Aside0.mk fr1
  have HAP := Aside0.mk H.apart
  have hyB : youngB (upd L x.k fun o => o.set i v) v = youngB L v := youngB_upd (L := L) x.k (f := fun o => o.set i v) (fun o => ⟨rfl, rfl⟩) v
  have HYB := Aside0.mk hyB
  have HXL := Aside0.mk hx
  have hob1 := H1.ob _ hx1
  have o3 : w1.cell? ⟨x.t, 3, none⟩ = some (.bool x.o.old) := (blk_cell hob1 3).trans rfl
  have o4 : w1.cell? ⟨x.t, 4, none⟩ = some (.bool x.o.noted) := (blk_cell hob1 4).trans rfl
  have f4 : w1.frozen? ⟨x.t, 4, none⟩ = false := blk_frozen hob1 4
  unfold ptr
  unfold ptr at HF HT HFX
  have hcs := find_cases _ H1.apart v
  rw [hyB] at hcs
  clear H hx hA hrow H1 hx1 fr1 hyB hob1 hkind hv
  go_enter Try.func28, Try.ntmps28
  go_wp2_with fail
  refine HF.out.mono ?_
  rintro e w2 ⟨rfl, rfl⟩
  go_wp2_with fail
  refine HT.out.mono ?_
  rintro e w2 ⟨rfl, rfl⟩
  go_wp2_with fail
  refine HFX.out.mono ?_
  rintro e w2 ⟨rfl, rfl⟩
  clear HF HT HFX
  go_wp2_with fail
  rw [← hw1]
  clear hw1 o1 q0 qf
  rcases hcs with ⟨y, hy, rfl, hyb⟩ | ⟨hno, hyb⟩
  · have HFY := Aside0.mk (find_any HW1.out hy)
    have y0 : w1.cell? ⟨y.t, 0, none⟩ = some (.int .i64 y.o.kind) := (blk_cell (HW1.out.ob y hy) 0).trans rfl
    have y3 : w1.cell? ⟨y.t, 3, none⟩ = some (.bool y.o.old) := (blk_cell (HW1.out.ob y hy) 3).trans rfl
    unfold ptr at HFY
    refine HFY.out.mono ?_
    rintro e w3 ⟨rfl, rfl⟩
    clear HFY hy
    cases hold : x.o.old with
    | false =>
      rw [hold] at o3
      go_wp2_with fail
      go_returns
      refine ⟨rfl, ?_, HFR.out⟩
      unfold setL
      rw [if_neg (by simp [hold])]
      exact HW1.out
    | true =>
      rw [hold] at o3
      cases hk : decide (0 < y.o.kind) with
      | false =>
        rw [hk, Bool.false_and] at hyb
        go_wp2_with fail
        go_returns
        refine ⟨rfl, ?_, HFR.out⟩
        unfold setL
        rw [if_neg (by simp [hyb])]
        exact HW1.out
      | true =>
        cases hyo : y.o.old with
        | true =>
          rw [hk, hyo] at hyb
          rw [hyo] at y3
          go_wp2_with fail
          go_returns
          refine ⟨rfl, ?_, HFR.out⟩
          unfold setL
          rw [if_neg (by simp [hyb])]
          exact HW1.out
        | false =>
          rw [hk, hyo] at hyb
          rw [hyo] at y3
          have H2 := Aside0.mk (HW1.out.setNoted HX1.out true)
          go_wp2_with fail
          go_returns
          refine ⟨rfl, ?_, HFR.out.trans ((FrP.ofFr (Fr.set w3 x.t 4 (.bool true))).mono (fun k _ hk => .inr (.inr (.inr ⟨x, HXL.out, .inl (by simpa using hk)⟩))))⟩
          unfold setL
          rw [if_pos ⟨hold, by simp [hyb]⟩]
          exact H2.out
  · have HFY := Aside0.mk (find_none HW1.out hno)
    unfold ptr at HFY
    refine HFY.out.mono ?_
    rintro e w3 ⟨nv, rfl, hb, t, rfl, ht⟩
    have t0 : w3.cell? ⟨t, 0, none⟩ = some (.int .i64 0) := (blk_cell ht 0).trans rfl
    have o3' : w3.cell? ⟨x.t, 3, none⟩ = some (.bool x.o.old) := by
      have hob1 := HW1.out.ob _ HX1.out
      exact (blk_cell (blk_below hob1 hb) 3).trans rfl
    have H3 := Aside0.mk (HW1.out.new hb)
    have HFR3 := Aside0.mk (HFR.out.trans (FrP.new hb _))
    clear HFY hno hb ht o3 o4 f4
    cases hold : x.o.old with
    | false =>
      rw [hold] at o3'
      go_wp2_with fail
      go_returns
      refine ⟨rfl, ?_, HFR3.out⟩
      unfold setL
      rw [if_neg (by simp [hold])]
      exact H3.out
    | true =>
      rw [hold] at o3'
      go_wp2_with fail
      go_returns
      refine ⟨rfl, ?_, HFR3.out⟩
      unfold setL
      rw [if_neg (by simp [hyb])]
      exact H3.out
end
theorem pairG (a c : Int) (i : Nat) (hi : i < 2) (w : World) : (Instr.index 64 (.agg #[.int .i64 a, .int .i64 c]) (.int .i64 i)).run Try.prog w = .ok (.int .i64 (if i = 0 then a else c)) w := by
  match i, hi with
  | 0, _ =>
    simp [Instr.index, run_underlying Try.underlying64, go_sem]
    try rfl
  | 1, _ =>
    simp [Instr.index, run_underlying Try.underlying64, go_sem]
    try rfl
set_option maxRecDepth 100000 in
/-- A new heap of so many young and old cells. -/
theorem new_any (y o : Int) (hy : 16 ≤ y ∧ y ≤ 1048576) (ho : 16 ≤ o ∧ o ≤ 1048576) (w : World) : Calls Try.prog 8 #[.int .i64 y, .int .i64 o] w fun e w' => ∃ g b, e = .returned (.tuple #[ptr g, .int .i64 0]) ∧ HW w' g b 0 none 0 [] ⟨2, [], y, o, 0, 0, 0, 0, false⟩ ∧ w.heap.size ≤ g ∧ w.heap.size ≤ b ∧ Below w.heap.size w w' := by
  have hp0 : ∀ w, (Instr.index 64 (.agg #[.int .i64 y, .int .i64 o]) (.int .i64 0)).run Try.prog w = .ok (.int .i64 y) w := pairG y o 0 (by decide)
  have hp1 : ∀ w, (Instr.index 64 (.agg #[.int .i64 y, .int .i64 o]) (.int .i64 1)).run Try.prog w = .ok (.int .i64 o) w := pairG y o 1 (by decide)
  have hmm := @run_makeMap Try.prog
  have a1 : decide (y < 16) = false := decide_eq_false (by omega)
  have a2 : decide (1048576 < y) = false := decide_eq_false (by omega)
  have a3 : decide (o < 16) = false := decide_eq_false (by omega)
  have a4 : decide (1048576 < o) = false := decide_eq_false (by omega)
  go_enter Try.func8, Try.ntmps8
  go_wp2_with fail
  go_loopw [11] (fun v wr => (∃ i : Nat, v = .int .i64 i ∧ Aside0 (i ≤ 2)) ∧ Aside0 (wr = w)) (fun v wr => 2 - (intOf v).toNat)
  case atStart => exact ⟨⟨0, rfl, ⟨Nat.zero_le _⟩⟩, ⟨rfl⟩⟩
  case round =>
    obtain ⟨⟨i, rfl, hi⟩, HW⟩ := hrel
    obtain rfl := HW.out
    have hi2 := hi.out
    match i, hi2 with
    | 0, _ =>
      go_wp2_with fail
      go_roundw
      case rel => exact ⟨⟨1, by go_num, ⟨by decide⟩⟩, ⟨trivial⟩⟩
      case measure => simp [intOf]
    | 1, _ =>
      go_wp2_with fail
      go_roundw
      case rel => exact ⟨⟨2, by go_num, ⟨by decide⟩⟩, ⟨trivial⟩⟩
      case measure => simp [intOf]
    | 2, _ =>
      go_wp2_with fail
      go_returns
      have hm := MapIs.new wr
      have hs : (wr.alloc (.map #[] 0)).heap.size = wr.heap.size + 1 := by simp
      refine ⟨wr.heap.size + 1, rfl, wr.heap.size, ⟨?_, hm.fr (Fr.alloc [] _ _) (by simp), World.ownsRow_nil _ _ _ _, by simp, by simp, by simp, by simp, by simp⟩, Nat.le_succ _, Nat.le_refl _, ((Below.refl _ _).alloc (Nat.le_refl _) _).alloc (by omega) _⟩
      rw [← hs]
      exact heap_alloc_new _ _
end Go.Proofs.Ytlghnldlkbgajaa.S
