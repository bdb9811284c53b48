
/- heap: there, Make, Root, SetRoot, Push, Kind, Field, New, whatever the heap. -/
import Derived.Test.YtlghnldlkbgajaaHPl2
namespace Go.Proofs.Ytlghnldlkbgajaa.S
open Go.RowKit Go.Proofs.YtlghnldlkbgajaaW.PrintWords Go.Proofs.YtlghnldlkbgajaaW.PrintLast Go.Proofs.YtlghnldlkbgajaaW.PrintMore
set_option linter.unusedVariables false
set_option linter.unusedSimpArgs false

def thereB (L : List OW) (x : Int) : Bool := decide (x % 2 = 1) || (decide (x ≤ 0) && decide (-2097152 ≤ x)) || L.any fun o => decide (o.k = x)
section
variable {w : World} {g b B : Nat} {R : Option Addr} {rc : Nat} {L : List OW} {h : HH}
set_option maxRecDepth 100000 in
theorem there_calls (H : HW w g b B R rc L h) (x : Int) : Calls Try.prog 32 #[ptr g, .int .i64 x] w fun e w' => e = .returned (.bool (thereB L x)) ∧ w' = w := by
  have c0 := H.c0
  unfold thereB ptr
  by_cases h1 : x % 2 = 1
  · have hb : (bits BinOp.and .i64 x 1 == 1) = true := by rw [bit1, h1]; rfl
    rw [decide_eq_true h1, Bool.true_or, Bool.true_or]
    clear H h1
    go_enter Try.func32, Try.ntmps32
    go_wp2
    go_returns
    exact ⟨rfl, rfl⟩
  · have hb : (bits BinOp.and .i64 x 1 == 1) = false := by rw [bit1]; simpa using h1
    rw [decide_eq_false h1, Bool.false_or]
    by_cases h2 : x ≤ 0
    · have hb2 : decide (x ≤ 0) = true := decide_eq_true h2
      by_cases h3 : -2097152 ≤ x
      · have hb3 : decide (-2097152 ≤ x) = true := decide_eq_true h3
        rw [hb2, hb3, Bool.true_and, Bool.true_or]
        clear H h1 h2
        go_enter Try.func32, Try.ntmps32
        go_wp2
        go_returns
        exact ⟨rfl, rfl⟩
      · have hb3 : decide (-2097152 ≤ x) = false := decide_eq_false h3
        have hno : ∀ o ∈ L, o.k ≠ x := fun o ho e => by have := H.low o ho; omega
        have hl := H.lookNo hno
        have hany : (L.any fun o => decide (o.k = x)) = false := by
          rw [List.any_eq_false]
          intro o ho
          simpa using hno o ho
        rw [hb2, hb3, hany, Bool.and_false, Bool.false_or]
        clear H h1 h2 hno hany
        go_enter Try.func32, Try.ntmps32
        go_wp2
        go_returns
        exact ⟨rfl, rfl⟩
    · have hb2 : decide (x ≤ 0) = false := decide_eq_false h2
      rw [hb2, Bool.false_and, Bool.false_or]
      cases hany : (L.any fun o => decide (o.k = x)) with
      | true =>
        obtain ⟨o, ho, e⟩ := List.any_eq_true.1 hany
        have e : o.k = x := by simpa using e
        have hl := H.look ho
        rw [e] at hl
        unfold ptr at hl
        clear H h1 h2 hany ho e
        go_enter Try.func32, Try.ntmps32
        go_wp2
        go_returns
        exact ⟨rfl, rfl⟩
      | false =>
        have hno : ∀ o ∈ L, o.k ≠ x := fun o ho e => by
          have := List.any_eq_false.1 hany o ho
          simp [e] at this
        have hl := H.lookNo hno
        clear H h1 h2 hany hno
        go_enter Try.func32, Try.ntmps32
        go_wp2
        go_returns
        exact ⟨rfl, rfl⟩
set_option maxRecDepth 100000 in
theorem root_calls (H : HW w g b B R rc L h) {i : Nat} (hi : i < h.roots.length) (hl : h.roots.length ≤ 1000000) : Calls Try.prog 11 #[ptr g, .int .i64 i] w fun e w' => e = .returned (.int .i64 (h.roots.getD i 0)) ∧ w' = w := by
  have c2 := H.c2
  obtain ⟨rb, hR, fc, -⟩ := H.rootAt hi
  have HM := Aside0.mk (made_any H)
  have b1 : decide ((i : Int) < 0) = false := decide_eq_false (by omega)
  have b2 : decide ((h.roots.length : Int) ≤ (i : Int)) = false := decide_eq_false (by omega)
  have b3 : (i : Int) < (h.roots.length : Int) := by omega
  obtain ⟨v, hv⟩ : ∃ v, v = h.roots.getD i 0 := ⟨_, rfl⟩
  rw [← hv] at fc ⊢
  subst hR
  unfold ptr
  unfold ptr at HM
  clear H hv
  go_enter Try.func11, Try.ntmps11
  go_wp2_with fail
  refine HM.out.mono ?_
  rintro e w1 ⟨rfl, rfl⟩
  go_wp2_with fail
  go_returns
  exact ⟨rfl, rfl⟩
set_option maxRecDepth 100000 in
theorem setroot_calls (H : HW w g b B R rc L h) {i : Nat} (hi : i < h.roots.length) {x : Int} (hx : thereB L x = true) : Calls Try.prog 12 #[ptr g, .int .i64 i, .int .i64 x] w fun e w' => e = .returned (.int .i64 0) ∧ HW w' g b B R rc L (h.setRoot i x) ∧ FrP (Foot g b R L) w w' := by
  have c2 := H.c2
  obtain ⟨rb, hR, fc, ff0⟩ := H.rootAt hi
  have ff := ff0 i
  have HM := Aside0.mk (made_any H)
  have HT := Aside0.mk (there_calls H x)
  rw [hx] at HT
  have b1 : decide ((i : Int) < 0) = false := decide_eq_false (by omega)
  have b2 : decide ((h.roots.length : Int) ≤ (i : Int)) = false := decide_eq_false (by omega)
  have b3 : (i : Int) < (h.roots.length : Int) := by omega
  subst hR
  have HS := Aside0.mk (H.setRoot hi x)
  unfold ptr
  unfold ptr at HM HT
  clear H ff0
  go_enter Try.func12, Try.ntmps12
  go_wp2_with fail
  refine HM.out.mono ?_
  rintro e w1 ⟨rfl, rfl⟩
  go_wp2_with fail
  refine HT.out.mono ?_
  rintro e w1 ⟨rfl, rfl⟩
  go_wp2_with fail
  go_returns
  exact ⟨rfl, HS.out, (FrP.ofFr (Fr.set w1 rb i _)).mono (fun k _ hk => .inr (.inr (.inl (by
    have hk : k = rb := by simpa using hk
    rw [hk]))))⟩
set_option maxRecDepth 100000 in
theorem find_any (H : HW w g b B R rc L h) {x : OW} (hx : x ∈ L) : Calls Try.prog 36 #[ptr g, .int .i64 x.k] w fun e w' => e = .returned (ptr x.t) ∧ w' = w := by
  have c0 := H.c0
  have hl := H.look hx
  have HM := Aside0.mk (made_any H)
  unfold ptr at *
  clear H hx
  generalize x.k = xk at *
  generalize x.t = xt at *
  go_enter Try.func36, Try.ntmps36
  go_wp2_with fail
  refine HM.out.mono ?_
  rintro e w1 ⟨rfl, rfl⟩
  go_wp2_with fail
  go_returns
  exact ⟨rfl, rfl⟩
set_option maxRecDepth 100000 in
theorem find_none (H : HW w g b B R rc L h) {k : Int} (hk : ∀ x ∈ L, x.k ≠ k) : Calls Try.prog 36 #[ptr g, .int .i64 k] w fun e w' => ∃ v, e = .returned v ∧ NoObj w w' v := by
  have c0 := H.c0
  have hl := H.lookNo hk
  have HM := Aside0.mk (made_any H)
  unfold ptr at *
  clear H hk
  go_enter Try.func36, Try.ntmps36
  go_wp2_with fail
  refine HM.out.mono ?_
  rintro e w1 ⟨rfl, rfl⟩
  go_wp2_with fail
  go_returns
  exact ⟨_, rfl, (Below.refl _ w1).alloc (Nat.le_refl _) _, _, rfl, Array.getElem?_push_size⟩
set_option maxRecDepth 100000 in
theorem kind_any (H : HW w g b B R rc L h) {x : OW} (hx : x ∈ L) : Calls Try.prog 13 #[ptr g, .int .i64 x.k] w fun e w' => e = .returned (.int .i64 x.o.kind) ∧ w' = w := by
  have HF := Aside0.mk (find_any H hx)
  have c0 : w.cell? ⟨x.t, 0, none⟩ = some (.int .i64 x.o.kind) := (blk_cell (H.ob x hx) 0).trans rfl
  unfold ptr at *
  clear H hx
  generalize x.k = xk at *
  generalize x.t = xt at *
  generalize x.o.kind = kd at *
  go_enter Try.func13, Try.ntmps13
  go_wp2_with fail
  refine HF.out.mono ?_
  rintro e w1 ⟨rfl, rfl⟩
  go_wp2_with fail
  go_returns
  exact ⟨rfl, rfl⟩
set_option maxRecDepth 100000 in
theorem kind_none (H : HW w g b B R rc L h) {k : Int} (hk : ∀ x ∈ L, x.k ≠ k) : Calls Try.prog 13 #[ptr g, .int .i64 k] w fun e w' => e = .returned (.int .i64 0) ∧ Below w.heap.size w w' := by
  have HF := Aside0.mk (find_none H hk)
  unfold ptr at *
  clear H hk
  go_enter Try.func13, Try.ntmps13
  go_wp2_with fail
  refine HF.out.mono ?_
  rintro e w1 ⟨v, rfl, hb, t, rfl, ht⟩
  have HB := Aside0.mk hb
  clear hb
  have c0 : w1.cell? ⟨t, 0, none⟩ = some (.int .i64 0) := (blk_cell ht 0).trans rfl
  clear ht
  go_wp2_with fail
  go_returns
  exact ⟨rfl, HB.out⟩
set_option maxRecDepth 100000 in
theorem field_any (H : HW w g b B R rc L h) {x : OW} (hx : x ∈ L) (hkind : x.o.kind ≠ 0) {i : Nat} (hi : i < x.o.fs.length) : Calls Try.prog 14 #[ptr g, .int .i64 x.k, .int .i64 i] w fun e w' => e = .returned (.tuple #[.int .i64 (x.o.fs.getD i 0), .int .i64 0]) ∧ w' = w := by
  have H0 := Aside0.mk (made_any H)
  have HF := Aside0.mk (find_any H hx)
  have c0 : w.cell? ⟨x.t, 0, none⟩ = some (.int .i64 x.o.kind) := (blk_cell (H.ob x hx) 0).trans rfl
  have c1 : w.cell? ⟨x.t, 1, none⟩ = some (.slice x.A x.o.fs.length x.c) := (blk_cell (H.ob x hx) 1).trans rfl
  obtain ⟨hA, hrow⟩ := H.row x hx (fun e => by rw [e] at hi; simp at hi)
  have f0 := hrow.cell hi
  rw [hA] at c1
  unfold ptr at *
  clear H hx hA hrow
  generalize x.k = xk at *
  generalize x.t = xt at *
  generalize x.o.kind = kd at *
  generalize x.fb = xfb at *
  generalize x.c = xfc at *
  generalize x.o.fs.getD i 0 = fv at *
  generalize x.o.fs.length = fn at *
  have hk0 : (kd == 0) = false := by simpa using hkind
  have hk1 : decide (kd = 0) = false := decide_eq_false hkind
  have hi0 : decide ((i : Int) < 0) = false := decide_eq_false (by omega)
  have hi1 : decide ((fn : Int) ≤ (i : Int)) = false := decide_eq_false (by omega)
  have hi2 : (i : Int) < (fn : Int) := by omega
  go_enter Try.func14, Try.ntmps14
  go_wp2_with fail
  refine H0.out.mono ?_
  rintro e w1 ⟨rfl, rfl⟩
  go_wp2_with fail
  refine HF.out.mono ?_
  rintro e w1 ⟨rfl, rfl⟩
  go_wp2_with fail
  go_returns
  exact ⟨rfl, rfl⟩
set_option maxRecDepth 100000 in
set_option maxHeartbeats 1000000 in
theorem push_calls (H : HW w g b 0 R rc L h) {x : Int} (hx : thereB L x = true) (hl : h.roots.length < 10000) : Calls Try.prog 9 #[ptr g, .int .i64 x] w fun e w' => e = .returned (.int .i64 0) ∧ ∃ R' rc', HW w' g b 0 R' rc' L { h with roots := h.roots ++ [x] } ∧ FrP (Foot g b R L) w w' ∧ ∀ k, Foot g b R' L k → Foot g b R L k ∨ w.heap.size ≤ k := by
  have HM := Aside0.mk (made_any H)
  have HT := Aside0.mk (there_calls H x)
  rw [hx] at HT
  have c2 := H.c2
  have b2 : decide ((10000 : Int) ≤ (h.roots.length : Int)) = false := decide_eq_false (by omega)
  -- the literal's row
  have hbL : Below w.heap.size w (w.alloc (.cells #[.int .i64 x] 28)) := (Below.refl _ _).alloc (Nat.le_refl _) _
  have HL := H.new hbL
  have hrow : Row (w.alloc (.cells #[.int .i64 x] 28)) w.heap.size [x] := ⟨_, heap_alloc_new w _, fun i hi => by
    rcases i with _ | i
    · rfl
    · exact absurd hi (by simp)⟩
  obtain ⟨R', rc', wA, hrun, hown, hfA, hblk⟩ := append_words HL.rt (A := some ⟨w.heap.size, 0, none⟩) (c := 1) (m := [x]) (fun _ => ⟨_, rfl, hrow⟩) (by simp; omega)
  have hgA := hfA.get HL.hp (fun e => HL.ne_gr e rfl)
  have c2A : wA.cell? ⟨g, 2, none⟩ = some (.slice R h.roots.length rc) := (blk_cell hgA 2).trans rfl
  have f2A : wA.frozen? ⟨g, 2, none⟩ = false := blk_frozen hgA 2
  obtain ⟨hpu, hpf, hpk⟩ := HL.pushed [x] hown hfA hblk
  have HPU := Aside0.mk (And.intro hpu (And.intro ((FrP.new hbL _).trans hpf) (fun k hk => (hpk k hk).imp id (fun e => Nat.le_trans hbL.size e))))
  simp only [List.length_singleton] at hrun HPU
  clear H HL hbL hrow hown hfA hblk hgA hpu hpf hpk hx
  unfold ptr
  unfold ptr at HM HT
  go_enter Try.func9, Try.ntmps9
  go_wp2_with fail
  refine HM.out.mono ?_
  rintro e w1 ⟨rfl, rfl⟩
  go_wp2_with fail
  refine HT.out.mono ?_
  rintro e w1 ⟨rfl, rfl⟩
  go_wp2_with (at_builtin; refine wpList_plain rfl fun K hK => wp_append_words _ _ 33 rfl _ _ _ _ rfl rfl hrun (hK _ _ ?_))
  go_returns
  exact ⟨rfl, R', rc', HPU.out⟩
end
end Go.Proofs.Ytlghnldlkbgajaa.S
