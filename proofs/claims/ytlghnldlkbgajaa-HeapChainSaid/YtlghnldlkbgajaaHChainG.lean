/- The law HeapChain, walked. -/
import Derived.Test.YtlghnldlkbgajaaHCW
namespace Go.Proofs.Ytlghnldlkbgajaa.S
open Go.RowKit Go.Proofs.YtlghnldlkbgajaaW.PrintWords Go.Proofs.YtlghnldlkbgajaaW.PrintLast Go.Proofs.YtlghnldlkbgajaaW.PrintMore
set_option linter.unusedVariables false
set_option linter.unusedSimpArgs false

theorem conv_rem (x k : Int) (h0 : 0 < k) (hk : k ≤ 1000) : ∃ N : Nat, wrap64 ((IntKind.u64.wrap x).tmod k) = (N : Int) ∧ (N : Int) < k := by
  have hw : 0 ≤ IntKind.u64.wrap x := by
    simp [IntKind.wrap, IntKind.bits, IntKind.signed]
    exact Int.emod_nonneg _ (by decide)
  have h1 := Int.tmod_nonneg k hw
  have h2 := Int.tmod_lt_of_pos (IntKind.u64.wrap x) h0
  refine ⟨((IntKind.u64.wrap x).tmod k).toNat, ?_, by omega⟩
  unfold wrap64
  omega
theorem own_mono {w : World} {base base' n size : Nat} {e : TypeId} {v : Value} {xs : List Value} (h : w.ownsRow base e size v n xs) (hb : base' ≤ base) : w.ownsRow base' e size v n xs := by
  refine ⟨h.1, ?_⟩
  rcases h.2 with h | ⟨g, cap, cur, a, b, c⟩
  · exact .inl h
  · exact .inr ⟨g, cap, cur, a, Nat.le_trans hb b, c⟩
/-- The chain as it is read, below a bound. -/
def RWB (w0 w : World) (g n : Nat) (r : Int) (B : Nat) : Prop := ∃ b R rc L h ks, HW w g b 0 R rc L h ∧ ChainK L n r ks ∧ (∀ k, Foot g b R L k → k < B) ∧ Below w0.heap.size w0 w ∧ w0.heap.size ≤ B
theorem RWB.start {w0 w : World} {g n : Nat} {r : Int} (h : RW w0 w g n r) : RWB w0 w g n r w.heap.size := by
  obtain ⟨b, R, rc, L, h, ks, h1, h2, h4⟩ := h
  exact ⟨b, R, rc, L, h, ks, h1, h2, fun k hk => h1.foot_lt hk, h4, h4.size⟩
theorem RWB.to {w0 w : World} {g n : Nat} {r : Int} {B : Nat} (h : RWB w0 w g n r B) : RW w0 w g n r := by
  obtain ⟨b, R, rc, L, h, ks, h1, h2, h3, h4, h5⟩ := h
  exact ⟨b, R, rc, L, h, ks, h1, h2, h4⟩
theorem RWB.sink {w0 w w' : World} {g n B : Nat} {r : Int} (h : RWB w0 w g n r B) (hb : Below B w w') : RWB w0 w' g n r B := by
  obtain ⟨b, R, rc, L, h, ks, h1, h2, h3, h4, h5⟩ := h
  exact ⟨b, R, rc, L, h, ks, h1.frp (FrP.ofBelow hb) (fun k hk e => by have := h3 k hk; omega), h2, h3, h4.trans (hb.mono h5), h5⟩
theorem rwb_f1 {w0 w : World} {g n B : Nat} {r : Int} (hc : RWB w0 w g (n + 1) r B) : Calls Try.prog 14 #[ptr g, .int .i64 r, .int .i64 1] w fun e w' => ∃ r', e = .returned (.tuple #[.int .i64 r', .int .i64 0]) ∧ w' = w ∧ RWB w0 w g n r' B := by
  obtain ⟨b, R, rc, L, h, ks, h1, ⟨o, ho, e1, e2, r', ks', e3, e4, e5⟩, h3, h4⟩ := hc
  have := field_any h1 ho (by rw [e2]; decide) (i := 1) (by rw [e3]; simp)
  rw [e1, e3] at this
  exact this.mono fun e w' ⟨p1, p2⟩ => ⟨r', p1, p2, b, R, rc, L, h, ks', h1, e5, h3, h4⟩
def vlen (v : Value) : Nat := match v with | .slice _ n _ => n | _ => 0
theorem vlen_of {w : World} {B n : Nat} {v : Value} {xs : List Value} (h : w.ownsRow B 28 1 v n xs) : vlen v = n := by
  rcases h.2 with ⟨rfl, rfl⟩ | ⟨g, cap, cur, rfl, -⟩
  · rfl
  · rfl
set_option maxRecDepth 100000 in
set_option maxHeartbeats 8000000 in
theorem chaing_calls (n0 j0 : Int) (w : World) : Calls Try.prog 3 #[.int .i64 n0, .int .i64 j0] w fun e w' => e = .returned (.bool true) ∧ Below w.heap.size w w' := by
  obtain ⟨N, hN, hN2⟩ := conv_rem n0 200 (by decide) (by decide)
  obtain ⟨J, hJ, hJ2⟩ := conv_rem j0 20 (by decide) (by decide)
  have HNJ := Aside0.mk (And.intro hN2 hJ2)
  have HN := Aside0.mk (And.intro hN hJ)
  clear hN hJ hN2 hJ2
  go_enter Try.func3, Try.ntmps3
  go_wp2_with fail
  rw [HN.out.1, HN.out.2]
  clear HN
  refine (cw_start _).mono ?_
  rintro e w1 ⟨g, b, rfl, hnew, hg, hb, hbl⟩
  have HNW := Aside0.mk (And.intro hnew (And.intro hg (And.intro hb hbl)))
  clear hnew hg hb hbl
  unfold ptr
  go_wp2_with fail
  refine (cw_push HNW.out.1 HNW.out.2.1 HNW.out.2.2.1 HNW.out.2.2.2).mono ?_
  rintro e w2 ⟨rfl, hc⟩
  have HC := Aside0.mk (show ∃ r, CW w w2 g 0 (2 * (0 * (J + 1))) r from ⟨0, by simpa using hc⟩)
  clear hc HNW
  go_wp2_with fail
  go_loopw [38] (fun v wr => ∃ i : Nat, v = .int .i64 i ∧ Aside0 (i ≤ N) ∧ Aside0 (∃ r, CW w wr g i (2 * (i * (J + 1))) r)) (fun v wr => N - (intOf v).toNat)
  case atStart => exact ⟨0, rfl, ⟨Nat.zero_le _⟩, HC⟩
  case round =>
    clear HC
    obtain ⟨i, rfl, hi, H⟩ := hrel
    have hnj := HNJ.out
    by_cases hlt : i < N
    · have hlt' : ((i : Int) < (N : Int)) := by omega
      have hltb : decide ((i : Int) < (N : Int)) = true := decide_eq_true hlt'
      have e1 : IntKind.i64.wrap (2 * (i : Int)) = 2 * (i : Int) := by rw [IntKind.wrap_i64]; omega
      have e2 : IntKind.i64.wrap (2 * (i : Int) + 1) = 2 * (i : Int) + 1 := by rw [IntKind.wrap_i64]; omega
      have hmi : i * (J + 1) ≤ 200 * 20 := Nat.mul_le_mul (by omega) (by omega)
      obtain ⟨r, hcr⟩ := H.out
      have HR0 := Aside0.mk hcr
      clear hcr H
      go_wp2_with fail
      refine (cw_root HR0.out).mono ?_
      rintro e w3 ⟨rfl, rfl⟩
      have HR := Aside0.mk (roww2 w3 (2 * (i : Int) + 1) r)
      have HA := Aside0.mk (HR0.out.alloc (.cells #[.int .i64 (2 * (i : Int) + 1), .int .i64 r] 28))
      clear HR0
      go_wp2_with fail
      refine (cw_pair HA.out (by omega) (by omega) HR.out).mono ?_
      rintro e w4 ⟨k, rfl, hc⟩
      have HC4 := Aside0.mk hc
      clear hc HA HR
      go_wp2_with fail
      refine (cw_set HC4.out).mono ?_
      rintro e w5 ⟨rfl, hc⟩
      have HC5 := Aside0.mk (show ∃ r, CW w w5 g (i + 1) (2 * (i * (J + 1)) + 2 + 2 * 0) r from ⟨k, hc⟩)
      clear hc HC4
      go_wp2_with fail
      go_loopw [61] (fun v wq => ∃ j : Nat, v = .int .i64 j ∧ Aside0 (j ≤ J) ∧ Aside0 (∃ r, CW w wq g (i + 1) (2 * (i * (J + 1)) + 2 + 2 * j) r)) (fun v wq => J - (intOf v).toNat)
      case atStart => exact ⟨0, rfl, ⟨Nat.zero_le _⟩, HC5⟩
      case round =>
        clear HC5
        obtain ⟨j, rfl, hj, H⟩ := hrel
        by_cases hjt : j < J
        · have hjl : ((j : Int) < (J : Int)) := by omega
          have hjb : decide ((j : Int) < (J : Int)) = true := decide_eq_true hjl
          obtain ⟨r2, hcr⟩ := H.out
          have HR0 := Aside0.mk hcr
          clear hcr H
          go_wp2_with fail
          refine (cw_root HR0.out).mono ?_
          rintro e w6 ⟨rfl, rfl⟩
          have HR := Aside0.mk (roww1 w6 r2)
          have HA := Aside0.mk (HR0.out.alloc (.cells #[.int .i64 r2] 28))
          clear HR0
          go_wp2_with fail
          refine (cw_junk HA.out (by omega) (by omega) HR.out).mono ?_
          rintro e w7 ⟨k2, rfl, r3, hc⟩
          have HC7 := Aside0.mk (show ∃ r, CW w w7 g (i + 1) (2 * (i * (J + 1)) + 2 + 2 * (j + 1)) r from ⟨r3, hc⟩)
          clear hc HA HR
          go_wp2_with fail
          go_roundw
          case rel => exact ⟨j + 1, by go_num, ⟨hjt⟩, HC7⟩
          case measure => simp [intOf]; omega
        · have hjl : ¬ ((j : Int) < (J : Int)) := by omega
          have hjb : decide ((j : Int) < (J : Int)) = false := decide_eq_false hjl
          have hjJ : j = J := by have := hj.out; omega
          have HC8 := Aside0.mk (show ∃ r, CW w wr g (i + 1) (2 * ((i + 1) * (J + 1))) r from by
            obtain ⟨r2, hcr⟩ := H.out
            refine ⟨r2, hcr.mono (Nat.le_of_eq ?_)⟩
            rw [hjJ, Nat.add_mul]; omega)
          clear hjJ H
          go_wp2_with fail
          go_roundw
          case rel => exact ⟨i + 1, by go_num, ⟨hlt⟩, HC8⟩
          case measure => simp [intOf]; omega
    · have hlt' : ¬ ((i : Int) < (N : Int)) := by omega
      have hltb : decide ((i : Int) < (N : Int)) = false := decide_eq_false hlt'
      obtain rfl : i = N := by have := hi.out; omega
      obtain ⟨r, hcr⟩ := H.out
      have HR0 := Aside0.mk hcr
      clear hcr H
      go_wp2_with fail
      refine (cw_root HR0.out).mono ?_
      rintro e w3 ⟨rfl, rfl⟩
      go_wp2_with fail
      obtain ⟨B, hBs⟩ : ∃ B, B = w3.heap.size := ⟨_, rfl⟩
      have HBS := Aside0.mk hBs
      clear hBs
      have HRD := Aside0.mk (show RWB w w3 g i r B by rw [HBS.out]; exact RWB.start HR0.out.read)
      clear HR0
      go_loopw [12, 13] (fun v12 v13 wq => ∃ (k : Nat) (rk : Int), v13 = .int .i64 rk ∧ Aside0 (k ≤ i) ∧ Aside0 (wq.ownsRow B 28 1 v12 (i - k) ((((oddL i).drop k).reverse).map (Value.int .i64))) ∧ Aside0 (w.heap.size ≤ B ∧ B ≤ wq.heap.size) ∧ Aside0 (RWB w wq g k rk B)) (fun v12 v13 wq => i - vlen v12)
      case atStart => exact ⟨i, r, rfl, ⟨Nat.le_refl _⟩, ⟨by rw [List.drop_of_length_le (by rw [oddL_len]; exact Nat.le_refl _), Nat.sub_self]; exact World.ownsRow_nil _ _ _ _⟩, ⟨by rw [HBS.out]; exact HRD.out.to.bel.size, by rw [HBS.out]; exact Nat.le_refl _⟩, HRD⟩
      case round =>
        obtain ⟨k, rk, rfl, hk, HO, HS, HR⟩ := hrel
        obtain ⟨i0, hi0, hz0, hz1, hz2⟩ := info_parts word_info
        have HI := Aside0.mk (And.intro hi0 (And.intro hz0 (And.intro hz1 hz2)))
        clear hi0 hz0 hz1 hz2 HRD
        have HVL := Aside0.mk (vlen_of HO.out)
        cases k with
        | succ j =>
          have hj : j < i := by have := hk.out; omega
          have hnj2 := HNJ.out.1
          obtain ⟨G1, hG1⟩ : ∃ G1, G1 = ((oddL i).drop (j + 1)).reverse := ⟨_, rfl⟩
          rw [← hG1] at HO
          have HG1 := Aside0.mk hG1
          clear hG1
          go_wp2_with fail
          refine (rw_kind HR.out.to).mono ?_
          rintro e w4 ⟨rfl, rfl⟩
          go_wp2_with fail
          refine (rw_f0 HR.out.to).mono ?_
          rintro e w5 ⟨rfl, rfl⟩
          go_wp2_with (at_builtin; refine wpList_append_own _ rfl _ _ 33 rfl B 28 i0 (.int .i64 0) 1 8 Try.underlying33 HI.out.1 HI.out.2.1 HI.out.2.2.1 HI.out.2.2.2 rfl (by decide) _ (i - (j + 1)) (G1.map (Value.int .i64)) rfl (HO.out.alloc _) ⟨w5.heap.size, 0, none⟩ 1 1 [.int .i64 (2 * (j : Int) + 1)] rfl ?qc1 ?qc2 ?qc3 ?qc4 ?qc5 ?qc6 ?_)
          case qc1 => rfl
          case qc2 => exact lit_cell2 _ _
          case qc3 => intro u hu; simp at hu; subst hu; rfl
          case qc4 => unfold maxLen; omega
          case qc5 => omega
          case qc6 => simp; have := HS.out.2; omega
          intro v' w6 hown hgrow hnil
          have hb6 : Below B w5 w6 := ((Below.refl _ w5).alloc HS.out.2 _).grown hgrow (by have := HS.out.2; simp; omega) (by intro k hk; exact (HO.out.lt k hk).1)
          have ho6 : w6.ownsRow B 28 1 v' (i - j) ((((oddL i).drop j).reverse).map (Value.int .i64)) := by
            have e : i - (j + 1) + 1 = i - j := by omega
            rw [← got_more hj, ← HG1.out, List.map_append, ← e]
            exact hown
          have HO6 := Aside0.mk ho6
          have HV6 := Aside0.mk (vlen_of ho6)
          have HS6 := Aside0.mk (show w.heap.size ≤ B ∧ B ≤ w6.heap.size from ⟨HS.out.1, Nat.le_trans HS.out.2 hb6.size⟩)
          have HR6 := Aside0.mk (HR.out.sink hb6)
          clear hown hgrow hnil hb6 ho6 HO HS HR
          go_wp2_with fail
          refine (rwb_f1 HR6.out).mono ?_
          rintro e w7 ⟨r', rfl, rfl, hrw⟩
          have HR7 := Aside0.mk hrw
          clear hrw HR6
          go_wp2_with fail
          go_roundw
          case rel => exact ⟨j, r', rfl, ⟨by omega⟩, HO6, HS6, HR7⟩
          case measure =>
            have h1 := HVL.out
            have h2 := HV6.out
            simp
            omega
        | zero =>
          go_wp2_with fail
          refine (rw_kind0 HR.out.to).mono ?_
          rintro e w4 ⟨rfl, hb4⟩
          have HW := Aside0.mk (below_step HR.out.to.bel hb4)
          have ho4 := World.ownsRow.kept HO.out (w' := w4) (row := none) ⟨hb4.os, hb4.tape, hb4.output, hb4.size, fun k hk _ => hb4.block k hk⟩ (Decidable.em _)
          have hBw : w.heap.size ≤ B := HS.out.1
          rw [Nat.sub_zero, List.drop_zero] at ho4
          obtain ⟨A, c, rfl, -⟩ := row_at ho4
          have HRK := Aside0.mk (show Kd.R (Kd.int .i64) 28 w4 w.heap.size (fun _ => True) (.slice A i c) (oddL i).reverse from Kd.R_of_own (by
            rw [List.length_reverse, oddL_len]
            exact own_mono ho4 hBw) (fun _ _ => trivial))
          have hnj2 := HNJ.out.1
          clear ho4 HO HS hb4 HR HI hBw HVL
          go_wp2_with fail
          refine (D.api_Word_15.calls ((oddL i).length + 1) (fun _ => True) _ (oddL i).reverse (oddL i) w _ HW.out HRK.out (turned_all (oddL i) (by rw [oddL_len]; omega))).mono ?_
          rintro e w5 ⟨rfl, hr, hb5, -⟩
          have HW5 := Aside0.mk hb5
          have ho5 := Kd.own_of_R hr
          rw [oddL_len] at ho5
          obtain ⟨A', c', hv, hcell⟩ := row_at (l := oddL i) ho5
          simp only [Value.slice.injEq] at hv
          obtain ⟨rfl, -, rfl⟩ := hv
          have HCE := Aside0.mk hcell
          clear hr hb5 HRK HW ho5 hcell
          go_wp2_with fail
          go_loopw [101] (fun v wq => ∃ t : Nat, v = .int .i64 t ∧ Aside0 (t ≤ i) ∧ Aside0 (wq = w5)) (fun v wq => i - (intOf v).toNat)
          case atStart => exact ⟨0, rfl, ⟨Nat.zero_le _⟩, ⟨rfl⟩⟩
          case round =>
            obtain ⟨t, rfl, ht, HE⟩ := hrel
            obtain rfl := HE.out
            by_cases htl : t < i
            · have htl' : ((t : Int) < (i : Int)) := by omega
              have htb : decide ((t : Int) < (i : Int)) = true := decide_eq_true htl'
              obtain ⟨gb, cur, rfl, -, hb, hcu⟩ := HCE.out t htl
              have q0 : wr.cell? ⟨gb, t, none⟩ = some (.int .i64 (2 * (t : Int) + 1)) := by
                refine (blk_cell hb t).trans (hcu.trans ?_)
                have := oddL_at htl
                simp only [List.getD]
                rw [this]
                rfl
              have e1 : IntKind.i64.wrap (2 * (t : Int)) = 2 * (t : Int) := by rw [IntKind.wrap_i64]; omega
              have e2 : IntKind.i64.wrap (2 * (t : Int) + 1) = 2 * (t : Int) + 1 := by rw [IntKind.wrap_i64]; omega
              clear hb hcu
              go_wp2_with fail
              go_roundw
              case rel => exact ⟨t + 1, by go_num, ⟨htl⟩, ⟨trivial⟩⟩
              case measure => simp [intOf]; omega
            · have htl' : ¬ ((t : Int) < (i : Int)) := by omega
              have htb : decide ((t : Int) < (i : Int)) = false := decide_eq_false htl'
              go_wp2_with fail
              go_returns
              exact ⟨rfl, HW5.out⟩
end Go.Proofs.Ytlghnldlkbgajaa.S
