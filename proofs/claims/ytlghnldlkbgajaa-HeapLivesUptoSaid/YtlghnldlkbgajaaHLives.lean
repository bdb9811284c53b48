
/- heap: HeapLives, walked. -/
import Derived.Test.YtlghnldlkbgajaaHLw7
import Derived.Test.YtlghnldlkbgajaaHLw8
namespace Go.Proofs.Ytlghnldlkbgajaa.S
open Go.RowKit Go.Proofs.YtlghnldlkbgajaaW.PrintWords Go.Proofs.YtlghnldlkbgajaaW.PrintLast Go.Proofs.YtlghnldlkbgajaaW.PrintMore
set_option linter.unusedVariables false
set_option linter.unusedSimpArgs false
section
variable {w0 w w' : World} {p g gx n : Nat}
theorem St.same {m : Nat} (H : St w0 w p g gx m) (hm : m ≤ 900) : Calls Try.prog 26 #[ptr p] w fun e w' => e = .returned (.bool true) ∧ St w0 w' p g gx m := by
  obtain ⟨h1, ρ, L, h, M, k, h2, h3, h4⟩ := H
  refine (same_calls h2 h3 h4 (by omega) h1).mono ?_
  rintro e w' ⟨he, hb⟩
  exact ⟨he, h1.new hb, ρ, L, h, M, k, h2.new hb, h3, h4⟩
set_option maxRecDepth 100000 in
set_option maxHeartbeats 2000000 in
theorem lives_no (y o : Int) (hno : ¬ ((16 ≤ y ∧ y ≤ 1048576) ∧ (16 ≤ o ∧ o ≤ 1048576))) {A : Option Addr} {c : Nat} (hD : DosAt w A n) (hn : n ≤ 1000000000) : Calls Try.prog 6 #[.int .i64 y, .int .i64 o, .slice A n c] w fun e w' => e = .returned (.bool true) ∧ Below w.heap.size w w' := by
  have HD := Aside0.mk hD
  have HNO := Aside0.mk hno
  clear hD hno
  go_enter Try.func6, Try.ntmps6
  go_wp2_with fail
  refine (new_no y o HNO.out w).mono ?_
  rintro e w1 ⟨rfl, rfl⟩
  go_wp2_with fail
  refine (rnew_no y o HNO.out w1).mono ?_
  rintro e w2 ⟨rfl, rfl⟩
  have hb0 : Below w2.heap.size w2 (w2.alloc (.cells #[.pointer none, .pointer none] 44)) := (Below.refl _ _).alloc (Nat.le_refl _) _
  have HB0 := Aside0.mk hb0
  clear hb0
  go_wp2_with fail
  go_loopw [42] (fun v wr => v = .int .i64 0 ∧ Aside0 (Below w2.heap.size w2 wr)) (fun v wr => 0)
  case atStart => exact ⟨rfl, HB0⟩
  case round =>
    clear HB0
    obtain ⟨rfl, HB⟩ := hrel
    by_cases hlt : 0 < n
    · have hltb : decide ((0 : Int) < (n : Int)) = true := decide_eq_true (by omega)
      have hil : (0 : Int) < (n : Int) := by omega
      obtain ⟨ad, op, kd, ix, A1, c1, xs, tx, rfl, z0, z1, z2, z3, z4, hxs, hxl, htx⟩ := HD.out 0 hlt
      have hbw := HB.out
      replace z0 := (hbw.cell (cell_lt z0)).trans z0
      replace z1 := (hbw.cell (cell_lt z1)).trans z1
      replace z2 := (hbw.cell (cell_lt z2)).trans z2
      replace z3 := (hbw.cell (cell_lt z3)).trans z3
      replace z4 := (hbw.cell (cell_lt z4)).trans z4
      rw [Nat.add_zero] at z0
      rw [add_at _ _ (by omega)] at z1 z2 z3 z4
      have HB2 := Aside0.mk (hbw.trans (Below.mono (show Below wr.heap.size wr (wr.alloc (.cells #[.int .i64 op, .int .i64 kd, .int .i64 ix, .slice A1 xs.length c1, .string tx] 59)) from (Below.refl _ _).alloc (Nat.le_refl _) _) hbw.size))
      simp only [Nat.zero_mul, show ∀ a : Addr, a.add 0 = a from fun _ => rfl] at z0 z1 z2 z3 z4
      clear hbw hxs hxl htx
      go_wp2_with fail
      go_returns
      exact ⟨rfl, HB2.out⟩
    · have hltb : decide ((0 : Int) < (n : Int)) = false := decide_eq_false (by omega)
      have hil : ¬ (0 : Int) < (n : Int) := by omega
      go_wp2_with fail
      go_returns
      exact ⟨rfl, HB.out⟩
set_option maxRecDepth 100000 in
set_option maxHeartbeats 2000000 in
theorem lives_yes (y o : Int) (hy : 16 ≤ y ∧ y ≤ 1048576) (ho : 16 ≤ o ∧ o ≤ 1048576) {A : Option Addr} {c : Nat} (hD : DosAt w A n) (hn : n ≤ 1000000000) : Calls Try.prog 6 #[.int .i64 y, .int .i64 o, .slice A n c] w fun e w' => e = .returned (.bool true) ∧ Below w.heap.size w w' := by
  have HD := Aside0.mk hD
  have HYO := Aside0.mk (And.intro hy ho)
  clear hD hy ho
  go_enter Try.func6, Try.ntmps6
  go_wp2_with fail
  refine (new_any y o HYO.out.1 HYO.out.2 w).mono ?_
  rintro e w1 ⟨g, b, rfl, H1, hg, hb, hb1⟩
  have HN1 := Aside0.mk (And.intro H1 (And.intro hg (And.intro hb hb1)))
  clear H1 hg hb hb1
  unfold ptr
  go_wp2_with fail
  refine (rnew_any y o HYO.out.1 HYO.out.2 w1).mono ?_
  rintro e w2 ⟨gx, rfl, H2, hgx, hb2⟩
  have HST := Aside0.mk (St.start HYO.out.1 HYO.out.2 HN1.out.1 HN1.out.2.1 HN1.out.2.2.1 HN1.out.2.2.2 H2 hgx hb2)
  clear H2 hgx hb2
  unfold ptr at HST
  unfold ptr
  go_wp2_with fail
  obtain ⟨p, hp⟩ : ∃ p, p = w2.heap.size := ⟨_, rfl⟩
  rw [← hp] at HST
  rw [← hp]
  clear hp HN1
  go_loopw [42] (fun v wr => ∃ i : Nat, v = .int .i64 i ∧ Aside0 (i ≤ n ∧ i ≤ 61) ∧ Aside0 (St w wr p g gx (2 * i))) (fun v wr => n - (intOf v).toNat)
  case atStart => exact ⟨0, rfl, ⟨by omega⟩, HST⟩
  case round =>
    clear HST
    obtain ⟨i, rfl, hi, HS⟩ := hrel
    by_cases hlt : i < n
    · have hltb : decide ((i : Int) < (n : Int)) = true := decide_eq_true (by omega)
      have hil : (i : Int) < (n : Int) := by omega
      obtain ⟨ad, op, kd, ix, A1, c1, xs, tx, rfl, z0, z1, z2, z3, z4, hxs, hxl, htx⟩ := HD.out i hlt
      have hbw := HS.out.bel
      replace z0 := (hbw.cell (cell_lt z0)).trans z0
      replace z1 := (hbw.cell (cell_lt z1)).trans z1
      replace z2 := (hbw.cell (cell_lt z2)).trans z2
      replace z3 := (hbw.cell (cell_lt z3)).trans z3
      replace z4 := (hbw.cell (cell_lt z4)).trans z4
      rw [Nat.add_zero] at z0
      rw [add_at _ _ (by omega)] at z1 z2 z3 z4
      have hba : Below wr.heap.size wr (wr.alloc (.cells #[.int .i64 op, .int .i64 kd, .int .i64 ix, .slice A1 xs.length c1, .string tx] 59)) := (Below.refl _ _).alloc (Nat.le_refl _) _
      have HSA := Aside0.mk (HS.out.new hba)
      have HX := Aside0.mk (And.intro ((hxs.new hbw).new hba) (And.intro hxl htx))
      clear hxs hbw hba hxl htx
      by_cases h60 : 60 < i
      · have h60b : decide ((60 : Int) < (i : Int)) = true := decide_eq_true (by omega)
        have HSM := Aside0.mk (HSA.out.same (by have := hi.out; omega))
        unfold ptr at HSM
        go_wp2_with fail
        refine HSM.out.mono ?_
        rintro e w5 ⟨rfl, hst⟩
        have HS5 := Aside0.mk hst
        clear hst HSM z0 z1 z2 z3 z4
        go_wp2_with fail
        go_returns
        exact ⟨rfl, HS5.out.bel⟩
      · have h60b : decide ((60 : Int) < (i : Int)) = false := decide_eq_false (by omega)
        have HDC := Aside0.mk (HSA.out.does (c := c1) (by omega) HX.out.1 HX.out.2.1 op kd ix tx HX.out.2.2)
        unfold ptr at HDC
        go_wp2_with fail
        refine HDC.out.mono ?_
        rintro e w5 ⟨rfl, hst⟩
        have HS5 := Aside0.mk hst
        have HSM := Aside0.mk (hst.same (by omega))
        unfold ptr at HSM
        clear hst HDC z0 z1 z2 z3 z4
        go_wp2_with fail
        refine HSM.out.mono ?_
        rintro e w6 ⟨rfl, hst⟩
        have HS6 := Aside0.mk hst
        clear hst HSM
        go_wp2_with fail
        go_roundw
        case rel => exact ⟨i + 1, by go_num, ⟨by omega⟩, ⟨HS6.out⟩⟩
        case measure => simp [intOf]; omega
    · have hltb : decide ((i : Int) < (n : Int)) = false := decide_eq_false (by omega)
      have hil : ¬ (i : Int) < (n : Int) := by omega
      have HSM := Aside0.mk (HS.out.same (by have := hi.out; omega))
      unfold ptr at HSM
      go_wp2_with fail
      refine HSM.out.mono ?_
      rintro e w5 ⟨rfl, hst⟩
      have HS5 := Aside0.mk hst
      clear hst HSM
      go_wp2_with fail
      go_returns
      exact ⟨rfl, HS5.out.bel⟩
theorem lives_calls (y o : Int) {A : Option Addr} {c : Nat} (hD : DosAt w A n) (hn : n ≤ 1000000000) : Calls Try.prog 6 #[.int .i64 y, .int .i64 o, .slice A n c] w fun e w' => e = .returned (.bool true) ∧ Below w.heap.size w w' := by
  by_cases h : (16 ≤ y ∧ y ≤ 1048576) ∧ (16 ≤ o ∧ o ≤ 1048576)
  · exact lives_yes y o h.1 h.2 hD hn
  · exact lives_no y o h hD hn
end
end Go.Proofs.Ytlghnldlkbgajaa.S
