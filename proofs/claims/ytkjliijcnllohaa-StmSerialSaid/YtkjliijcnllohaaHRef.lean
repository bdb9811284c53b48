/- bytes.Equal, and the reference's names and copies. -/
import Derived.Test.YtkjliijcnllohaaHLocks
import Derived.Test.YtkjliijcnllohaaPStmAlonex1
namespace Go.Proofs.Ytkjliijcnllohaa.S
open Go.RowKit Go.Proofs.YtkjliijcnllohaaW.PrintWords Go.Proofs.YtkjliijcnllohaaW.PrintLast Go.Proofs.YtkjliijcnllohaaW.PrintMore
set_option linter.unusedVariables false
set_option linter.unusedSimpArgs false

theorem toList_len (b : ByteArray) : b.toList.length = b.size := by rw [ByteArray.toList_eq]; simp
theorem fit_size (name : ByteArray) : fitB name = (decide (1 ≤ name.size) && decide (name.size ≤ 11)) := by
  unfold fitB
  congr 1
  have h0 := toList_len name
  cases h : name.toList with
  | nil => rw [h] at h0; simp only [List.length_nil] at h0; rw [← h0]; rfl
  | cons a l => rw [h] at h0; simp only [List.length_cons] at h0; rw [decide_eq_true (by omega)]; rfl
theorem isName_calls (name : ByteArray) (w : World) : Calls Try.prog 18 #[.string name] w fun e w' => e = .returned (.bool (fitB name)) ∧ Drawn0 w w' := by
  refine PStmAlone.rostrumref18_IsName.calls name (fitB name) w ?_
  unfold PStmAlone.rostrumref18_IsName.f
  rw [fit_size]
  by_cases h : (name.size : Int) ≥ 1
  · rw [if_pos h, decide_eq_true (show 1 ≤ name.size by omega), Bool.true_and]
    congr 1
    exact decide_eq_decide.2 (by omega)
  · rw [if_neg h, decide_eq_false (show ¬ 1 ≤ name.size by omega), Bool.false_and]

theorem Reads.kd {w : World} {v : Value} {xs : List Int} (h : Reads w v xs) : ∃ A c, v = .slice A xs.length c ∧ Kd.C (Kd.int .u8) w A xs.length xs := by
  rcases h.2 with ⟨rfl, rfl⟩ | ⟨a, c, rfl, hc⟩
  · exact ⟨none, 0, rfl, Kd.C_nil _ _⟩
  · refine ⟨some a, c, rfl, rfl, by have := h.1; omega, fun _ => ⟨a, rfl, fun j p hj => ⟨[.int .u8 p], rfl, rfl, fun i u hu => ?_⟩⟩⟩
    have hjl : j < xs.length := (List.getElem?_eq_some_iff.1 hj).1
    match i, hu with
    | 0, hu =>
      simp only [List.getElem?_cons_zero, Option.some.injEq] at hu
      subst hu
      have := hc j hjl
      rw [show xs.getD j 0 = p from by rw [List.getD_eq_getElem?_getD, hj]; rfl] at this
      rw [show j * (Kd.int .u8).sz + 0 = j from by show j * 1 + 0 = j; omega]
      exact this
    | i + 1, hu => simp at hu
set_option maxRecDepth 100000 in
theorem equal_calls {w : World} {v1 v2 : Value} {xs ys : List Int} (h1 : Reads w v1 xs) (h2 : Reads w v2 ys) : Calls Try.prog 19 #[v1, v2] w fun e w' => e = .returned (.bool ((strOfNums xs).toList == (strOfNums ys).toList)) ∧ Drawn0 w w' := by
  obtain ⟨A0, c0, rfl, k0⟩ := h1.kd
  obtain ⟨A1, c1, rfl, k1⟩ := h2.kd
  clear h1 h2
  have hcv3 := Kd.C_string (P := Try.prog) (A := A0) (c := c0) Try.underlying22 Try.underlying5 Try.underlying9 k0
  have hcv4 := Kd.C_string (P := Try.prog) (A := A1) (c := c1) Try.underlying22 Try.underlying5 Try.underlying9 k1
  clear k0 k1
  go_enter Try.func19, Try.ntmps19
  go_wp2
  go_returns
  exact ⟨rfl, Drawn0.refl _⟩
set_option maxRecDepth 100000 in
set_option maxHeartbeats 1000000 in
theorem copied_calls {w : World} {v : Value} {xs : List Int} (h : Reads w v xs) :
    Calls Try.prog 41 #[v] w fun e w' => ∃ A n c, e = .returned (.slice A n c) ∧ Below w.heap.size w w' := by
  obtain ⟨i0, hi, hz0, hz1, hz2⟩ := info_parts byte_info
  rcases h.2 with ⟨rfl, rfl⟩ | ⟨a, c, rfl, hc⟩
  · clear h
    go_enter Try.func41, Try.ntmps41
    go_wp2
    go_returns
    exact ⟨_, _, _, rfl, below_alloc (Below.refl _ _) _⟩
  · have A := Aside0.mk hc
    have hl := h.1
    clear hc h
    go_enter Try.func41, Try.ntmps41
    go_wp2_with (at_builtin; refine wpList_append_own _ rfl _ _ 22 rfl w.heap.size 5 i0 (.int .u8 0) 1 1 Try.underlying22 hi hz0 hz1 hz2 rfl (by decide) _ _ _ rfl (World.ownsRow_made w #[] 0 (Nat.le_refl _) (Nat.zero_le _) rfl) a xs.length c (xs.map (Value.int .u8)) rfl ?qc1 ?qc2 ?qc3 ?qc4 ?qc5 ?qc6 ?_)
    case qc1 => simp
    case qc2 =>
      intro j u hj
      have hjn : j < xs.length := by
        have := (List.getElem?_eq_some_iff.1 hj).1
        simpa using this
      refine Lib.cell?_alloc_some _ ?_
      rw [A.out j hjn]
      have e : (xs.map (Value.int .u8))[j]? = some (Value.int .u8 (xs.getD j 0)) := by simp [List.getD, List.getElem?_eq_getElem (show j < xs.length by omega)]
      rw [e] at hj
      exact hj
    case qc3 => intro u hu; obtain ⟨x, _, rfl⟩ := List.mem_map.1 hu; rfl
    case qc4 => unfold maxLen; omega
    case qc5 => omega
    case qc6 => simp
    intro v' w1 hown hgrow hnil
    have HO := Aside0.mk hown
    have HG := Aside0.mk hgrow
    clear hown hgrow hnil
    go_wp2
    go_returns
    have hform : ∃ A n c, v' = .slice A n c := by
      rcases HO.out.2 with ⟨h1, _⟩ | ⟨g, cap, cur, h1, _⟩
      · exact ⟨_, _, _, h1⟩
      · exact ⟨_, _, _, h1⟩
    obtain ⟨A', n', c', rfl⟩ := hform
    exact ⟨A', n', c', rfl, ((Below.refl _ w).alloc (Nat.le_refl _) _).grown HG.out (by simp) (by intro k hk; simp [Value.ownBlock] at hk; omega)⟩
end Go.Proofs.Ytkjliijcnllohaa.S
