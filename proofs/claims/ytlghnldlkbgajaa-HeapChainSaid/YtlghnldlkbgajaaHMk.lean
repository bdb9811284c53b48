/- heap: there, Make, Root, SetRoot, Push, Kind, Field, New, whatever the heap. -/
import Derived.Test.YtlghnldlkbgajaaHPl2
namespace Go.Proofs.Ytlghnldlkbgajaa.S
open Go.RowKit Go.Proofs.YtlghnldlkbgajaaW.PrintWords Go.Proofs.YtlghnldlkbgajaaW.PrintLast Go.Proofs.YtlghnldlkbgajaaW.PrintMore
set_option linter.unusedVariables false
set_option linter.unusedSimpArgs false

def thereB (L : List OW) (x : Int) : Bool := decide (x % 2 = 1) || (decide (x ≤ 0) && decide (-2097152 ≤ x)) || L.any fun o => decide (o.k = x)
section
variable {w : World} {g b B : Nat} {R : Option Addr} {rc : Nat} {L : List OW} {h : HH}
set_option maxRecDepth 100000 in
theorem there_calls (H : HW w g b B R rc L h) (x : Int) : Calls Try.prog 32 #[ptr g, .int .i64 x] w fun e w' => e = .returned (.bool (thereB L x)) ∧ w' = w := by
  have c0 := H.c0
  unfold thereB ptr
  by_cases h1 : x % 2 = 1
  · have hb : (bits BinOp.and .i64 x 1 == 1) = true := by rw [bit1, h1]; rfl
    rw [decide_eq_true h1, Bool.true_or, Bool.true_or]
    clear H h1
    go_enter Try.func32, Try.ntmps32
    go_wp2
    go_returns
    exact ⟨rfl, rfl⟩
  · have hb : (bits BinOp.and .i64 x 1 == 1) = false := by rw [bit1]; simpa using h1
    rw [decide_eq_false h1, Bool.false_or]
    by_cases h2 : x ≤ 0
    · have hb2 : decide (x ≤ 0) = true := decide_eq_true h2
      by_cases h3 : -2097152 ≤ x
      · have hb3 : decide (-2097152 ≤ x) = true := decide_eq_true h3
        rw [hb2, hb3, Bool.true_and, Bool.true_or]
        clear H h1 h2
        go_enter Try.func32, Try.ntmps32
        go_wp2
        go_returns
        exact ⟨rfl, rfl⟩
      · have hb3 : decide (-2097152 ≤ x) = false := decide_eq_false h3
        have hno : ∀ o ∈ L, o.k ≠ x := fun o ho e => by have := H.low o ho; omega
        have hl := H.lookNo hno
        have hany : (L.any fun o => decide (o.k = x)) = false := by
          rw [List.any_eq_false]
          intro o ho
          simpa using hno o ho
        rw [hb2, hb3, hany, Bool.and_false, Bool.false_or]
        clear H h1 h2 hno hany
        go_enter Try.func32, Try.ntmps32
        go_wp2
        go_returns
        exact ⟨rfl, rfl⟩
    · have hb2 : decide (x ≤ 0) = false := decide_eq_false h2
      rw [hb2, Bool.false_and, Bool.false_or]
      cases hany : (L.any fun o => decide (o.k = x)) with
      | true =>
        obtain ⟨o, ho, e⟩ := List.any_eq_true.1 hany
        have e : o.k = x := by simpa using e
        have hl := H.look ho
        rw [e] at hl
        unfold ptr at hl
        clear H h1 h2 hany ho e
        go_enter Try.func32, Try.ntmps32
        go_wp2
        go_returns
        exact ⟨rfl, rfl⟩
      | false =>
        have hno : ∀ o ∈ L, o.k ≠ x := fun o ho e => by
          have := List.any_eq_false.1 hany o ho
          simp [e] at this
        have hl := H.lookNo hno
        clear H h1 h2 hany hno
        go_enter Try.func32, Try.ntmps32
        go_wp2
        go_returns
        exact ⟨rfl, rfl⟩
set_option maxRecDepth 100000 in
theorem root_calls (H : HW w g b B R rc L h) {i : Nat} (hi : i < h.roots.length) (hl : h.roots.length ≤ 1000000) : Calls Try.prog 11 #[ptr g, .int .i64 i] w fun e w' => e = .returned (.int .i64 (h.roots.getD i 0)) ∧ w' = w := by
  have c2 := H.c2
  obtain ⟨rb, hR, fc, -⟩ := H.rootAt hi
  have HM := Aside0.mk (made_any H)
  have b1 : decide ((i : Int) < 0) = false := decide_eq_false (by omega)
  have b2 : decide ((h.roots.length : Int) ≤ (i : Int)) = false := decide_eq_false (by omega)
  have b3 : (i : Int) < (h.roots.length : Int) := by omega
  obtain ⟨v, hv⟩ : ∃ v, v = h.roots.getD i 0 := ⟨_, rfl⟩
  rw [← hv] at fc ⊢
  subst hR
  unfold ptr
  unfold ptr at HM
  clear H hv
  go_enter Try.func11, Try.ntmps11
  go_wp2_with fail
  refine HM.out.mono ?_
  rintro e w1 ⟨rfl, rfl⟩
  go_wp2_with fail
  go_returns
  exact ⟨rfl, rfl⟩
set_option maxRecDepth 100000 in
theorem setroot_calls (H : HW w g b B R rc L h) {i : Nat} (hi : i < h.roots.length) {x : Int} (hx : thereB L x = true) : Calls Try.prog 12 #[ptr g, .int .i64 i, .int .i64 x] w fun e w' => e = .returned (.int .i64 0) ∧ HW w' g b B R rc L (h.setRoot i x) ∧ FrP (Foot g b R L) w w' := by
  have c2 := H.c2
  obtain ⟨rb, hR, fc, ff0⟩ := H.rootAt hi
  have ff := ff0 i
  have HM := Aside0.mk (made_any H)
  have HT := Aside0.mk (there_calls H x)
  rw [hx] at HT
  have b1 : decide ((i : Int) < 0) = false := decide_eq_false (by omega)
  have b2 : decide ((h.roots.length : Int) ≤ (i : Int)) = false := decide_eq_false (by omega)
  have b3 : (i : Int) < (h.roots.length : Int) := by omega
  subst hR
  have HS := Aside0.mk (H.setRoot hi x)
  unfold ptr
  unfold ptr at HM HT
  clear H ff0
  go_enter Try.func12, Try.ntmps12
  go_wp2_with fail
  refine HM.out.mono ?_
  rintro e w1 ⟨rfl, rfl⟩
  go_wp2_with fail
  refine HT.out.mono ?_
  rintro e w1 ⟨rfl, rfl⟩
  go_wp2_with fail
  go_returns
  exact ⟨rfl, HS.out, (FrP.ofFr (Fr.set w1 rb i _)).mono (fun k _ hk => .inr (.inr (.inl (by
    have hk : k = rb := by simpa using hk
    rw [hk]))))⟩
set_option maxRecDepth 100000 in
theorem find_any (H : HW w g b B R rc L h) {x : OW} (hx : x ∈ L) : Calls Try.prog 36 #[ptr g, .int .i64 x.k] w fun e w' => e = .returned (ptr x.t) ∧ w' = w := by
  have c0 := H.c0
  have hl := H.look hx
  have HM := Aside0.mk (made_any H)
  unfold ptr at *
  clear H hx
  generalize x.k = xk at *
  generalize x.t = xt at *
  go_enter Try.func36, Try.ntmps36
  go_wp2_with fail
  refine HM.out.mono ?_
  rintro e w1 ⟨rfl, rfl⟩
  go_wp2_with fail
  go_returns
  exact ⟨rfl, rfl⟩
set_option maxRecDepth 100000 in
theorem find_none (H : HW w g b B R rc L h) {k : Int} (hk : ∀ x ∈ L, x.k ≠ k) : Calls Try.prog 36 #[ptr g, .int .i64 k] w fun e w' => ∃ v, e = .returned v ∧ NoObj w w' v := by
  have c0 := H.c0
  have hl := H.lookNo hk
  have HM := Aside0.mk (made_any H)
  unfold ptr at *
  clear H hk
  go_enter Try.func36, Try.ntmps36
  go_wp2_with fail
  refine HM.out.mono ?_
  rintro e w1 ⟨rfl, rfl⟩
  go_wp2_with fail
  go_returns
  exact ⟨_, rfl, (Below.refl _ w1).alloc (Nat.le_refl _) _, _, rfl, Array.getElem?_push_size⟩
set_option maxRecDepth 100000 in
theorem kind_any (H : HW w g b B R rc L h) {x : OW} (hx : x ∈ L) : Calls Try.prog 13 #[ptr g, .int .i64 x.k] w fun e w' => e = .returned (.int .i64 x.o.kind) ∧ w' = w := by
  have HF := Aside0.mk (find_any H hx)
  have c0 : w.cell? ⟨x.t, 0, none⟩ = some (.int .i64 x.o.kind) := (blk_cell (H.ob x hx) 0).trans rfl
  unfold ptr at *
  clear H hx
  generalize x.k = xk at *
  generalize x.t = xt at *
  generalize x.o.kind = kd at *
  go_enter Try.func13, Try.ntmps13
  go_wp2_with fail
  refine HF.out.mono ?_
  rintro e w1 ⟨rfl, rfl⟩
  go_wp2_with fail
  go_returns
  exact ⟨rfl, rfl⟩
set_option maxRecDepth 100000 in
theorem kind_none (H : HW w g b B R rc L h) {k : Int} (hk : ∀ x ∈ L, x.k ≠ k) : Calls Try.prog 13 #[ptr g, .int .i64 k] w fun e w' => e = .returned (.int .i64 0) ∧ Below w.heap.size w w' := by
  have HF := Aside0.mk (find_none H hk)
  unfold ptr at *
  clear H hk
  go_enter Try.func13, Try.ntmps13
  go_wp2_with fail
  refine HF.out.mono ?_
  rintro e w1 ⟨v, rfl, hb, t, rfl, ht⟩
  have HB := Aside0.mk hb
  clear hb
  have c0 : w1.cell? ⟨t, 0, none⟩ = some (.int .i64 0) := (blk_cell ht 0).trans rfl
  clear ht
  go_wp2_with fail
  go_returns
  exact ⟨rfl, HB.out⟩
set_option maxRecDepth 100000 in
theorem field_any (H : HW w g b B R rc L h) {x : OW} (hx : x ∈ L) (hkind : x.o.kind ≠ 0) {i : Nat} (hi : i < x.o.fs.length) : Calls Try.prog 14 #[ptr g, .int .i64 x.k, .int .i64 i] w fun e w' => e = .returned (.tuple #[.int .i64 (x.o.fs.getD i 0), .int .i64 0]) ∧ w' = w := by
  have H0 := Aside0.mk (made_any H)
  have HF := Aside0.mk (find_any H hx)
  have c0 : w.cell? ⟨x.t, 0, none⟩ = some (.int .i64 x.o.kind) := (blk_cell (H.ob x hx) 0).trans rfl
  have c1 : w.cell? ⟨x.t, 1, none⟩ = some (.slice x.A x.o.fs.length x.c) := (blk_cell (H.ob x hx) 1).trans rfl
  obtain ⟨hA, hrow⟩ := H.row x hx (fun e => by rw [e] at hi; simp at hi)
  have f0 := hrow.cell hi
  rw [hA] at c1
  unfold ptr at *
  clear H hx hA hrow
  generalize x.k = xk at *
  generalize x.t = xt at *
  generalize x.o.kind = kd at *
  generalize x.fb = xfb at *
  generalize x.c = xfc at *
  generalize x.o.fs.getD i 0 = fv at *
  generalize x.o.fs.length = fn at *
  have hk0 : (kd == 0) = false := by simpa using hkind
  have hk1 : decide (kd = 0) = false := decide_eq_false hkind
  have hi0 : decide ((i : Int) < 0) = false := decide_eq_false (by omega)
  have hi1 : decide ((fn : Int) ≤ (i : Int)) = false := decide_eq_false (by omega)
  have hi2 : (i : Int) < (fn : Int) := by omega
  go_enter Try.func14, Try.ntmps14
  go_wp2_with fail
  refine H0.out.mono ?_
  rintro e w1 ⟨rfl, rfl⟩
  go_wp2_with fail
  refine HF.out.mono ?_
  rintro e w1 ⟨rfl, rfl⟩
  go_wp2_with fail
  go_returns
  exact ⟨rfl, rfl⟩
set_option maxRecDepth 100000 in
set_option maxHeartbeats 1000000 in
theorem push_calls (H : HW w g b 0 R rc L h) {x : Int} (hx : thereB L x = true) (hl : h.roots.length < 10000) : Calls Try.prog 9 #[ptr g, .int .i64 x] w fun e w' => e = .returned (.int .i64 0) ∧ ∃ R' rc', HW w' g b 0 R' rc' L { h with roots := h.roots ++ [x] } ∧ FrP (Foot g b R L) w w' ∧ ∀ k, Foot g b R' L k → Foot g b R L k ∨ w.heap.size ≤ k := by
  have HM := Aside0.mk (made_any H)
  have HT := Aside0.mk (there_calls H x)
  rw [hx] at HT
  have c2 := H.c2
  have b2 : decide ((10000 : Int) ≤ (h.roots.length : Int)) = false := decide_eq_false (by omega)
  -- the literal's row
  have hbL : Below w.heap.size w (w.alloc (.cells #[.int .i64 x] 28)) := (Below.refl _ _).alloc (Nat.le_refl _) _
  have HL := H.new hbL
  have hrow : Row (w.alloc (.cells #[.int .i64 x] 28)) w.heap.size [x] := ⟨_, heap_alloc_new w _, fun i hi => by
    rcases i with _ | i
    · rfl
    · exact absurd hi (by simp)⟩
  obtain ⟨R', rc', wA, hrun, hown, hfA, hblk⟩ := append_words HL.rt (A := some ⟨w.heap.size, 0, none⟩) (c := 1) (m := [x]) (fun _ => ⟨_, rfl, hrow⟩) (by simp; omega)
  have hgA := hfA.get HL.hp (fun e => HL.ne_gr e rfl)
  have c2A : wA.cell? ⟨g, 2, none⟩ = some (.slice R h.roots.length rc) := (blk_cell hgA 2).trans rfl
  have f2A : wA.frozen? ⟨g, 2, none⟩ = false := blk_frozen hgA 2
  obtain ⟨hpu, hpf, hpk⟩ := HL.pushed [x] hown hfA hblk
  have HPU := Aside0.mk (And.intro hpu (And.intro ((FrP.new hbL _).trans hpf) (fun k hk => (hpk k hk).imp id (fun e => Nat.le_trans hbL.size e))))
  simp only [List.length_singleton] at hrun HPU
  clear H HL hbL hrow hown hfA hblk hgA hpu hpf hpk hx
  unfold ptr
  unfold ptr at HM HT
  go_enter Try.func9, Try.ntmps9
  go_wp2_with fail
  refine HM.out.mono ?_
  rintro e w1 ⟨rfl, rfl⟩
  go_wp2_with fail
  refine HT.out.mono ?_
  rintro e w1 ⟨rfl, rfl⟩
  go_wp2_with (at_builtin; refine wpList_plain rfl fun K hK => wp_append_words _ _ 33 rfl _ _ _ _ rfl rfl hrun (hK _ _ ?_))
  go_returns
  exact ⟨rfl, R', rc', HPU.out⟩
theorem pairN0 (w : World) : (Instr.index 64 (.agg #[.int .i64 32, .int .i64 1000]) (.int .i64 0)).run Try.prog w = .ok (.int .i64 32) w := by
  simp [Instr.index, run_underlying Try.underlying64, go_sem]
  try rfl
theorem pairN1 (w : World) : (Instr.index 64 (.agg #[.int .i64 32, .int .i64 1000]) (.int .i64 1)).run Try.prog w = .ok (.int .i64 1000) w := by
  simp [Instr.index, run_underlying Try.underlying64, go_sem]
  try rfl
set_option maxRecDepth 100000 in
/-- A new heap of 32 young and 1000 old cells. -/
theorem new_calls (w : World) : Calls Try.prog 8 #[.int .i64 32, .int .i64 1000] w fun e w' => ∃ g b, e = .returned (.tuple #[ptr g, .int .i64 0]) ∧ HW w' g b 0 none 0 [] ⟨2, [], 32, 1000, 0, 0, 0, 0, false⟩ ∧ w.heap.size ≤ g ∧ w.heap.size ≤ b ∧ Below w.heap.size w w' := by
  have hp0 := pairN0
  have hp1 := pairN1
  have hmm := @run_makeMap Try.prog
  go_enter Try.func8, Try.ntmps8
  go_wp2_with fail
  go_loopw [11] (fun v wr => (∃ i : Nat, v = .int .i64 i ∧ Aside0 (i ≤ 2)) ∧ Aside0 (wr = w)) (fun v wr => 2 - (intOf v).toNat)
  case atStart => exact ⟨⟨0, rfl, ⟨Nat.zero_le _⟩⟩, ⟨rfl⟩⟩
  case round =>
    obtain ⟨⟨i, rfl, hi⟩, HW⟩ := hrel
    obtain rfl := HW.out
    have hi2 := hi.out
    match i, hi2 with
    | 0, _ =>
      go_wp2_with fail
      go_roundw
      case rel => exact ⟨⟨1, by go_num, ⟨by decide⟩⟩, ⟨trivial⟩⟩
      case measure => simp [intOf]
    | 1, _ =>
      go_wp2_with fail
      go_roundw
      case rel => exact ⟨⟨2, by go_num, ⟨by decide⟩⟩, ⟨trivial⟩⟩
      case measure => simp [intOf]
    | 2, _ =>
      go_wp2_with fail
      go_returns
      have hm := MapIs.new wr
      have hs : (wr.alloc (.map #[] 0)).heap.size = wr.heap.size + 1 := by simp
      refine ⟨wr.heap.size + 1, rfl, wr.heap.size, ⟨?_, hm.fr (Fr.alloc [] _ _) (by simp), World.ownsRow_nil _ _ _ _, by simp, by simp, by simp, by simp, by simp⟩, Nat.le_succ _, Nat.le_refl _, ((Below.refl _ _).alloc (Nat.le_refl _) _).alloc (by omega) _⟩
      rw [← hs]
      exact heap_alloc_new _ _
end
set_option maxRecDepth 100000 in
set_option maxHeartbeats 1000000 in
theorem make_pair {w : World} {g b : Nat} {R : Option Addr} {rc : Nat} {L : List OW} {h : HH} (H : HW w g b 0 R rc L h) (hs : Sm L h) {fa c : Nat} {fs : List Int} (hrow : Row w fa fs) (hne : fs ≠ []) (hlen : fs.length = 2) (hth : ∀ f ∈ fs, thereB L f = true)
    (hrl : h.roots.length ≤ 100000) (hh0 : 0 ≤ h.has0 ∧ h.has0 ≤ 1000000000) (hnx : h.nx ≤ 800000000000) :
    Calls Try.prog 10 #[ptr g, .int .i64 1, .slice (some ⟨fa, 0, none⟩) 2 c] w fun e w' => ∃ x : OW, x.o = ⟨1, fs, ⟨#[]⟩, false, false⟩ ∧ e = .returned (.tuple #[.int .i64 (plO L h x).1, .int .i64 (plO L h x).2.1]) ∧
      ∃ b' R' rc', HW w' g b' 0 R' rc' (plO L h x).2.2.1 (plO L h x).2.2.2 ∧ FrP (Foot g b R L) w w' ∧ ∀ k, Foot g b' R' (plO L h x).2.2.1 k → Foot g b R L k ∨ w.heap.size ≤ k := by
  have HM := Aside0.mk (made_any H)
  have HH0 := Aside0.mk H
  have HR := Aside0.mk hrow
  have HT := Aside0.mk hth
  have HL := Aside0.mk hlen
  have HNE := Aside0.mk hne
  have HSm := Aside0.mk hs
  skip
  clear H hrow hth hlen hne hs
  unfold ptr
  unfold ptr at HM
  go_enter Try.func10, Try.ntmps10
  go_wp2_with fail
  refine HM.out.mono ?_
  rintro e w1 ⟨rfl, rfl⟩
  go_wp2_with fail
  refine (fixed1 _).mono ?_
  rintro e w2 ⟨rfl, hb2⟩
  have H2 := Aside0.mk (HH0.out.new hb2)
  have HR2 := Aside0.mk (HR.out.fr (Fr.ofBelow hb2 []) (by simp))
  have HB2 := Aside0.mk hb2
  clear hb2
  go_wp2_with fail
  go_loopw [39] (fun v wr => (∃ i : Nat, v = .int .i64 i ∧ Aside0 (i ≤ 2)) ∧ Aside0 (HW wr g b 0 R rc L h) ∧ Aside0 (Row wr fa fs) ∧ Aside0 (Below w1.heap.size w1 wr)) (fun v wr => 2 - (intOf v).toNat)
  case atStart => exact ⟨⟨0, rfl, ⟨Nat.zero_le _⟩⟩, H2, HR2, HB2⟩
  case round =>
    clear H2 HR2 HB2
    obtain ⟨⟨i, rfl, hi⟩, H2, HR2, HB2⟩ := hrel
    by_cases hlt : i < 2
    · have hlt' : ((i : Int) < 2) := by omega
      have hltb : decide ((i : Int) < 2) = true := decide_eq_true hlt'
      have hil : i < fs.length := by have := HL.out; omega
      have hc := HR2.out.cell (i := i) hil
      obtain ⟨x, hx⟩ : ∃ x, x = fs.getD i 0 := ⟨_, rfl⟩
      have HX := Aside0.mk (show thereB L x = true by rw [hx]; exact HT.out _ (by simp [List.getD, hil]))
      rw [← hx] at hc
      clear hx
      have hth := there_calls H2.out x
      rw [HX.out] at hth
      have HTH := Aside0.mk hth
      unfold ptr at HTH
      clear hth
      go_wp2_with fail
      refine HTH.out.mono ?_
      rintro e w3 ⟨rfl, rfl⟩
      go_wp2_with fail
      go_roundw
      case rel => exact ⟨⟨i + 1, by go_num, ⟨hlt⟩⟩, H2, HR2, HB2⟩
      case measure => simp [intOf]; omega
    · have hltb : decide ((i : Int) < 2) = false := decide_eq_false (by omega)
      have hil' : ¬ ((i : Int) < 2) := by omega
      go_wp2_with fail
      rw [show (2 : Nat) = fs.length from HL.out.symm]
      refine (clone_ok (xs := fs) (c := c) (by have := HL.out; omega) (List.length_pos_iff.2 HNE.out) (fun j hj => by
        rw [show (⟨fa, 0, none⟩ : Addr).add j = ⟨fa, j, none⟩ from by unfold Addr.add; split <;> simp_all]
        exact HR2.out.cell hj)).mono ?_
      rintro e w3 ⟨fb, fc, rfl, hrw, hfb, hb3⟩
      have h3 := H2.out.new hb3
      have hbA : Below w1.heap.size w1 w3 := below_step HB2.out hb3
      have hszr : w1.heap.size ≤ wr.heap.size := HB2.out.size
      obtain ⟨X, hX⟩ : ∃ X : OW, X = ⟨0, w3.heap.size, some ⟨fb, 0, none⟩, fc, fb, ⟨1, fs, ⟨#[]⟩, false, false⟩⟩ := ⟨_, rfl⟩
      have hob : X.obj = .cells #[.int .i64 1, .slice (some ⟨fb, 0, none⟩) fs.length fc, .string ⟨#[]⟩, .bool false, .bool false] 78 (0, 0) := by rw [hX]; rfl
      have hbo : Below w3.heap.size w3 (w3.alloc X.obj) := (Below.refl _ _).alloc (Nat.le_refl _) _
      have H4 := Aside0.mk (h3.new hbo)
      have HB4 := Aside0.mk (below_step hbA hbo)
      have HO4 := Aside0.mk (heap_alloc_new w3 X.obj)
      have HR4 := Aside0.mk (hrw.fr (Fr.alloc [] w3 X.obj) (by simp))
      have hft : ∀ k, Foot g b R L k → k < w1.heap.size := fun k hk => HH0.out.foot_lt hk
      have HFT := Aside0.mk hft
      have hfb1 : w1.heap.size ≤ fb := by omega
      have hx1 : w1.heap.size ≤ w3.heap.size := hbA.size
      have HXB := Aside0.mk (And.intro hfb1 hx1)
      rw [hob] at H4 HB4 HO4 HR4
      clear H2 HR2 HB2 h3 hbA hszr hob hrw hb3 hfb hbo hft hfb1 hx1
      go_wp2_with fail
      have hpl := place_calls H4.out HSm.out X (by rw [hX]; exact HO4.out) (by rw [hX]; exact fun _ => ⟨rfl, HR4.out⟩) (by rw [hX]; exact fun hk => by have h1 : w3.heap.size < w1.heap.size := HFT.out _ hk; have := HXB.out.2; omega) (by rw [hX]; exact fun _ hk => by have h1 : fb < w1.heap.size := HFT.out _ hk; have := HXB.out.1; omega) (by rw [hX]; show fs.length ≤ _; have := HL.out; omega) (by rw [hX]; show (0 : Nat) ≤ _; omega) hrl hh0 hnx
      rw [show ptr X.t = .pointer (some ⟨w3.heap.size, 0, none⟩) from by rw [hX]; rfl] at hpl
      unfold ptr at hpl
      refine hpl.mono ?_
      rintro e w4 ⟨rfl, b', R', rc', hp4, hf4, hk4⟩
      have HP := Aside0.mk hp4
      have HF := Aside0.mk (show FrP (Foot g b R L) w1 w4 from (FrP.new HB4.out _).then (hf4.mono (fun k _ hk => by
        have h1 := HXB.out
        rcases hk with hk | hk | ⟨-, hk⟩
        · exact .inl hk
        · rw [hX] at hk; exact .inr (by show w1.heap.size ≤ k; have hk : k = w3.heap.size := hk; omega)
        · rw [hX] at hk; exact .inr (by have hk : k = fb := hk; omega))))
      have HK := Aside0.mk (show ∀ k, Foot g b' R' (plO L h X).2.2.1 k → Foot g b R L k ∨ w1.heap.size ≤ k from fun k hk => by
        have h1 := HXB.out
        have h2 := HB4.out.size
        rcases hk4 k hk with hk | hk | ⟨-, hk⟩ | hk
        · exact .inl hk
        · rw [hX] at hk; exact .inr (by have hk : k = w3.heap.size := hk; omega)
        · rw [hX] at hk; exact .inr (by have hk : k = fb := hk; omega)
        · exact .inr (by omega))
      have HXO := Aside0.mk (show X.o = ⟨1, fs, ⟨#[]⟩, false, false⟩ by rw [hX])
      clear hp4 hf4 hk4 H4 HB4 HO4 HR4 hpl hX
      go_wp2_with fail
      go_returns
      exact ⟨X, HXO.out, rfl, b', R', rc', HP.out, HF.out, HK.out⟩
set_option maxRecDepth 100000 in
set_option maxHeartbeats 1000000 in
theorem make_vec {w : World} {g b : Nat} {R : Option Addr} {rc : Nat} {L : List OW} {h : HH} (H : HW w g b 0 R rc L h) (hs : Sm L h) {fa c : Nat} {fs : List Int} (hrow : Row w fa fs) (hne : fs ≠ []) (hlen : fs.length ≤ 1000) (hth : ∀ f ∈ fs, thereB L f = true)
    (hrl : h.roots.length ≤ 100000) (hh0 : 0 ≤ h.has0 ∧ h.has0 ≤ 1000000000) (hnx : h.nx ≤ 800000000000) :
    Calls Try.prog 10 #[ptr g, .int .i64 2, .slice (some ⟨fa, 0, none⟩) fs.length c] w fun e w' => ∃ x : OW, x.o = ⟨2, fs, ⟨#[]⟩, false, false⟩ ∧ e = .returned (.tuple #[.int .i64 (plO L h x).1, .int .i64 (plO L h x).2.1]) ∧
      ∃ b' R' rc', HW w' g b' 0 R' rc' (plO L h x).2.2.1 (plO L h x).2.2.2 ∧ FrP (Foot g b R L) w w' ∧ ∀ k, Foot g b' R' (plO L h x).2.2.1 k → Foot g b R L k ∨ w.heap.size ≤ k := by
  have HM := Aside0.mk (made_any H)
  have HH0 := Aside0.mk H
  have HR := Aside0.mk hrow
  have HT := Aside0.mk hth
  have HL := Aside0.mk hlen
  have HNE := Aside0.mk hne
  have HSm := Aside0.mk hs
  have hlc := hlen
  have hl1 : decide ((1000 : Int) < (fs.length : Int)) = false := decide_eq_false (by omega)
  clear H hrow hth hlen hne hs
  unfold ptr
  unfold ptr at HM
  go_enter Try.func10, Try.ntmps10
  go_wp2_with fail
  refine HM.out.mono ?_
  rintro e w1 ⟨rfl, rfl⟩
  go_wp2_with fail
  refine (fixed2 _).mono ?_
  rintro e w2 ⟨rfl, hb2⟩
  have H2 := Aside0.mk (HH0.out.new hb2)
  have HR2 := Aside0.mk (HR.out.fr (Fr.ofBelow hb2 []) (by simp))
  have HB2 := Aside0.mk hb2
  clear hb2
  go_wp2_with fail
  go_loopw [39] (fun v wr => (∃ i : Nat, v = .int .i64 i ∧ Aside0 (i ≤ fs.length)) ∧ Aside0 (HW wr g b 0 R rc L h) ∧ Aside0 (Row wr fa fs) ∧ Aside0 (Below w1.heap.size w1 wr)) (fun v wr => fs.length - (intOf v).toNat)
  case atStart => exact ⟨⟨0, rfl, ⟨Nat.zero_le _⟩⟩, H2, HR2, HB2⟩
  case round =>
    clear H2 HR2 HB2
    obtain ⟨⟨i, rfl, hi⟩, H2, HR2, HB2⟩ := hrel
    by_cases hlt : i < fs.length
    · have hlt' : ((i : Int) < (fs.length : Int)) := by omega
      have hltb : decide ((i : Int) < (fs.length : Int)) = true := decide_eq_true hlt'
      have hil : i < fs.length := by have := HL.out; omega
      have hc := HR2.out.cell (i := i) hil
      obtain ⟨x, hx⟩ : ∃ x, x = fs.getD i 0 := ⟨_, rfl⟩
      have HX := Aside0.mk (show thereB L x = true by rw [hx]; exact HT.out _ (by simp [List.getD, hil]))
      rw [← hx] at hc
      clear hx
      have hth := there_calls H2.out x
      rw [HX.out] at hth
      have HTH := Aside0.mk hth
      unfold ptr at HTH
      clear hth
      go_wp2_with fail
      refine HTH.out.mono ?_
      rintro e w3 ⟨rfl, rfl⟩
      go_wp2_with fail
      go_roundw
      case rel => exact ⟨⟨i + 1, by go_num, ⟨hlt⟩⟩, H2, HR2, HB2⟩
      case measure => simp [intOf]; omega
    · have hltb : decide ((i : Int) < (fs.length : Int)) = false := decide_eq_false (by omega)
      have hil' : ¬ ((i : Int) < (fs.length : Int)) := by omega
      go_wp2_with fail
      skip
      refine (clone_ok (xs := fs) (c := c) (by have := HL.out; omega) (List.length_pos_iff.2 HNE.out) (fun j hj => by
        rw [show (⟨fa, 0, none⟩ : Addr).add j = ⟨fa, j, none⟩ from by unfold Addr.add; split <;> simp_all]
        exact HR2.out.cell hj)).mono ?_
      rintro e w3 ⟨fb, fc, rfl, hrw, hfb, hb3⟩
      have h3 := H2.out.new hb3
      have hbA : Below w1.heap.size w1 w3 := below_step HB2.out hb3
      have hszr : w1.heap.size ≤ wr.heap.size := HB2.out.size
      obtain ⟨X, hX⟩ : ∃ X : OW, X = ⟨0, w3.heap.size, some ⟨fb, 0, none⟩, fc, fb, ⟨2, fs, ⟨#[]⟩, false, false⟩⟩ := ⟨_, rfl⟩
      have hob : X.obj = .cells #[.int .i64 2, .slice (some ⟨fb, 0, none⟩) fs.length fc, .string ⟨#[]⟩, .bool false, .bool false] 78 (0, 0) := by rw [hX]; rfl
      have hbo : Below w3.heap.size w3 (w3.alloc X.obj) := (Below.refl _ _).alloc (Nat.le_refl _) _
      have H4 := Aside0.mk (h3.new hbo)
      have HB4 := Aside0.mk (below_step hbA hbo)
      have HO4 := Aside0.mk (heap_alloc_new w3 X.obj)
      have HR4 := Aside0.mk (hrw.fr (Fr.alloc [] w3 X.obj) (by simp))
      have hft : ∀ k, Foot g b R L k → k < w1.heap.size := fun k hk => HH0.out.foot_lt hk
      have HFT := Aside0.mk hft
      have hfb1 : w1.heap.size ≤ fb := by omega
      have hx1 : w1.heap.size ≤ w3.heap.size := hbA.size
      have HXB := Aside0.mk (And.intro hfb1 hx1)
      rw [hob] at H4 HB4 HO4 HR4
      clear H2 HR2 HB2 h3 hbA hszr hob hrw hb3 hfb hbo hft hfb1 hx1
      go_wp2_with fail
      have hpl := place_calls H4.out HSm.out X (by rw [hX]; exact HO4.out) (by rw [hX]; exact fun _ => ⟨rfl, HR4.out⟩) (by rw [hX]; exact fun hk => by have h1 : w3.heap.size < w1.heap.size := HFT.out _ hk; have := HXB.out.2; omega) (by rw [hX]; exact fun _ hk => by have h1 : fb < w1.heap.size := HFT.out _ hk; have := HXB.out.1; omega) (by rw [hX]; show fs.length ≤ _; have := HL.out; omega) (by rw [hX]; show (0 : Nat) ≤ _; omega) hrl hh0 hnx
      rw [show ptr X.t = .pointer (some ⟨w3.heap.size, 0, none⟩) from by rw [hX]; rfl] at hpl
      unfold ptr at hpl
      refine hpl.mono ?_
      rintro e w4 ⟨rfl, b', R', rc', hp4, hf4, hk4⟩
      have HP := Aside0.mk hp4
      have HF := Aside0.mk (show FrP (Foot g b R L) w1 w4 from (FrP.new HB4.out _).then (hf4.mono (fun k _ hk => by
        have h1 := HXB.out
        rcases hk with hk | hk | ⟨-, hk⟩
        · exact .inl hk
        · rw [hX] at hk; exact .inr (by show w1.heap.size ≤ k; have hk : k = w3.heap.size := hk; omega)
        · rw [hX] at hk; exact .inr (by have hk : k = fb := hk; omega))))
      have HK := Aside0.mk (show ∀ k, Foot g b' R' (plO L h X).2.2.1 k → Foot g b R L k ∨ w1.heap.size ≤ k from fun k hk => by
        have h1 := HXB.out
        have h2 := HB4.out.size
        rcases hk4 k hk with hk | hk | ⟨-, hk⟩ | hk
        · exact .inl hk
        · rw [hX] at hk; exact .inr (by have hk : k = w3.heap.size := hk; omega)
        · rw [hX] at hk; exact .inr (by have hk : k = fb := hk; omega)
        · exact .inr (by omega))
      have HXO := Aside0.mk (show X.o = ⟨2, fs, ⟨#[]⟩, false, false⟩ by rw [hX])
      clear hp4 hf4 hk4 H4 HB4 HO4 HR4 hpl hX
      go_wp2_with fail
      go_returns
      exact ⟨X, HXO.out, rfl, b', R', rc', HP.out, HF.out, HK.out⟩
end Go.Proofs.Ytlghnldlkbgajaa.S
