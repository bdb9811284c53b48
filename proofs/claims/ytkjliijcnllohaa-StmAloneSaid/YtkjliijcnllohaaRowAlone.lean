/- StmAlone: whatever comes in, the law returns true and what came in reads as it did. No condition. -/
import Derived.Test.YtkjliijcnllohaaRows
import Derived.Test.YtkjliijcnllohaaHAlone
import Derived.WalkKit
import Derived.ProofKit
import Derived.OpenShut
import Derived.ChangeOld
import Derived.Below
import Derived.SizedLaws
import Derived.Deep.Slices
import Derived.Deep.Strs
import Derived.Lib.SmallJoins
namespace Go.Proofs.Ytkjliijcnllohaa.StmAlone
open Go.ChangeShapes Go.WideShapes Go.ChangeAt Go.RowKit Go.Deep Go.Joins
open Go.Proofs.Ytkjliijcnllohaa.S
open Go.ChangeMaps (open_string)
set_option linter.unusedVariables false

theorem own : ownKnob Try.prog.godebug = none := by kernel_rfl
theorem laidOut : laidOutB Try.prog = true := by kernel_rfl
theorem bytes5 : Try.prog.bytesOf 5 = 1 := by kernel_rfl
theorem bytes28 : Try.prog.bytesOf 28 = 48 := by kernel_rfl
theorem cells5 : Try.prog.cellsOf 5 = 1 := by kernel_rfl

theorem weights_all {H : Type} {P : Program} {e : TypeId} {d : DataW H} : ∀ {l : List (DataW H)}, d ∈ l → ∀ n ∈ d.weights P e, n ∈ DataW.weightsAll P e l
  | a :: l, hd, n, hn => by
    simp only [DataW.weightsAll, List.mem_append]
    rcases List.mem_cons.1 hd with rfl | hd
    · exact .inl hn
    · exact .inr (weights_all hd n hn)

theorem reads_of {H : Type} {enc : TypeId × Value → H} {W : World} {v : Value} {fuel : Nat} {d : DataW H} {p : List MemPlace}
    (hf : DataW.trod enc Try.prog W 0 (fun _ => true) true fuel 22 [v] = some (d, p)) (hsz : ∀ n ∈ d.weights Try.prog 22, n ≤ reachBytes) : ∃ xs, Reads W v xs := by
  rcases open_ints Try.underlying22 Try.underlying5 cells5 hf with ⟨hcs, hx⟩ | ⟨a, len', cap', zs, hcs, _, hl, hm, hz, hx, hcell, hwz⟩
  · simp only [List.cons.injEq, and_true] at hcs
    rw [hcs]
    exact ⟨[], by simp, .inl ⟨rfl, rfl⟩⟩
  · simp only [List.cons.injEq, and_true] at hcs
    subst hcs
    simp only [Prod.mk.injEq] at hx
    obtain ⟨rfl, rfl⟩ := hx
    have h1 := hsz _ (by simp only [DataW.weights, Try.underlying22]; exact List.mem_cons_self ..)
    rw [bytes5] at h1
    have h2 := reachBytes_lt
    simp only [if_true] at hz
    have hlen : (zs.take len').length = len' := by simp; omega
    refine ⟨zs.take len', ?_, .inr ⟨a, cap', by rw [hlen], fun i hi => ?_⟩⟩
    · rw [hlen]
      simp only [lits, List.length_map, List.length_take, List.length_drop] at h1
      omega
    · rw [hlen] at hi
      rw [hcell i (by omega)]
      simp [List.getD, hi]

set_option maxRecDepth 100000 in
theorem slots_of {H : Type} {enc : TypeId × Value → H} {W : World} {v : Value} {fuel : Nat} {d : DataW H} {p : List MemPlace}
    (hf : DataW.trod enc Try.prog W 0 (fun _ => true) true fuel 29 [v] = some (d, p)) (hsz : ∀ n ∈ d.weights Try.prog 29, n ≤ reachBytes) : ∃ A c L, v = .slice A (List.length L) c ∧ SlotsIn W A L ∧ L.length < 10000000000000 := by
  have h2 := reachBytes_lt
  rcases open_slice Try.underlying29 hf with ⟨hcs, hx⟩ | ⟨a, len, cap, m, n', D, Pl, hcs, _, hl, hm, hmm, hx, hi⟩
  · simp only [List.cons.injEq, and_true] at hcs
    exact ⟨none, 0, [], hcs, ⟨by simp, fun i h => by simp at h⟩, by simp⟩
  · simp only [List.cons.injEq, and_true] at hcs
    simp only [Prod.mk.injEq] at hx
    obtain ⟨rfl, -⟩ := hx
    simp only [DataW.weights, Try.underlying29] at hsz
    have hlm : len ≤ m := by rw [hmm]; split <;> omega
    have h0 := hsz _ (List.mem_cons_self ..)
    rw [bytes28] at h0
    simp only [List.length_map, List.length_range] at h0
    have key : ∀ i, i < len → ∃ x : SA, W.cell? (a.add (i * 3)) = some (.string x.name) ∧ W.cell? ⟨(a.add (i * 3)).block, (a.add (i * 3)).off + 1, none⟩ = some (.int .i64 x.ver) ∧ W.cell? ⟨(a.add (i * 3)).block, (a.add (i * 3)).off + 2, none⟩ = some x.v ∧ Reads W x.v x.bs := by
      intro i hil
      obtain ⟨cs', hc, ht⟩ := hi i (by omega)
      rw [show Try.prog.cellsOf 28 = 3 from by kernel_rfl] at hc
      obtain ⟨_, hcl, hat⟩ := World.cells?_some hc
      obtain ⟨y0, y1, y2, k, hx, hlen, q0, q1, q2⟩ := trod_struct3 Try.underlying28 ht
      have hc3 : Try.prog.cellsOf 3 = 1 := by kernel_rfl
      have hc9 : Try.prog.cellsOf 9 = 1 := by kernel_rfl
      have hc22 : Try.prog.cellsOf 22 = 1 := by kernel_rfl
      match cs', hcl with
      | [v0, v1, v2], _ =>
      simp only [hc3, hc9, hc22, List.drop_zero, List.take_succ_cons, List.take_zero, List.drop_succ_cons] at q0 q1 q2
      obtain ⟨nm, e0, rfl, hk⟩ := DataW.trod_string Try.underlying9 q0
      obtain ⟨vr, e1, rfl, hv⟩ := DataW.trod_int Try.underlying3 q1
      simp only [List.cons.injEq, and_true] at e0 e1
      subst e0 e1
      obtain ⟨xs, hxs⟩ := reads_of (v := v2) (d := y2.1) (p := y2.2) q2 (fun n hn => hsz n (by
        refine List.mem_cons_of_mem _ (List.mem_append_left _ ?_)
        refine weights_all (d := D i) (List.mem_map.2 ⟨i, List.mem_range.2 hil, rfl⟩) n ?_
        have hD : D i = .agg [.lit (.string nm.data.toList), .lit (.int .i64 vr), y2.1] := (Prod.mk.inj hx).1
        rw [hD]
        simp only [DataW.weights, Try.underlying28]
        exact DataW.weights_mem_each (j := 2) rfl rfl n hn))
      have a0 := hat 0 (by omega)
      have a1 := hat 1 (by omega)
      have a2 := hat 2 (by omega)
      exact ⟨⟨nm, vr, v2, xs⟩, a0, a1, a2, hxs⟩
    let f : Nat → SA := fun i => if h : i < len then Classical.choose (key i h) else ⟨.empty, 0, .slice none 0 0, []⟩
    have hf : ∀ i, i < len → W.cell? (a.add (i * 3)) = some (.string (f i).name) ∧ W.cell? ⟨(a.add (i * 3)).block, (a.add (i * 3)).off + 1, none⟩ = some (.int .i64 (f i).ver) ∧ W.cell? ⟨(a.add (i * 3)).block, (a.add (i * 3)).off + 2, none⟩ = some (f i).v ∧ Reads W (f i).v (f i).bs := by
      intro i h
      have := Classical.choose_spec (key i h)
      simp only [f, dif_pos h]
      exact this
    refine ⟨some a, cap, (List.range len).map f, by rw [hcs]; simp, ⟨by simp only [List.length_map, List.length_range]; omega, fun i hi' => ?_⟩, by simp only [List.length_map, List.length_range]; omega⟩
    have hil : i < len := by simpa using hi'
    have he : ((List.range len).map f)[i] = f i := by simp
    rw [he]
    exact ⟨a, rfl, hf i hil⟩

set_option maxRecDepth 100000 in
theorem lifted (os : Os) (started : os.Started) (H : Type) (enc : TypeId × Value → H) :
    ReturnsInHanded {} Try.checked os 4 .any (Rows.stmAloneSpec.pre6 enc Try.prog Try.f4 Rows.stmAloneRow.domain false) (Rows.stmAloneSpec.post enc Try.prog Try.f4 false true false false) := by
  refine returnsInHanded_of_change_sized (C := Try.checked) own started (by kernel_rfl) Try.func4
    (ChangeSpec.witness6 (enc := enc) (C := Try.checked) false ⟨#[], #[.slice none 0 0, .string ByteArray.empty, .slice none 0 0], []⟩ 8 (by kernel_rfl) (by kernel_rfl) (by kernel_rfl) (by kernel_rfl)) ?_
  intro W base args ds gs before hval0 hW _ hsz0 _
  have hsz : (DataW.weightsEach Try.prog (Try.f4.params.toList ++ Rows.stmAloneSpec.plain.varTypes Try.prog) (ds ++ gs)).all (· ≤ reachBytes) = true := hsz0
  clear hsz0
  have hval : ∀ (j : Nat) t v, Try.f4.params[j]? = some t → args[j]? = some v → Value.okWide Try.prog W .any base t v := hval0
  have hW' := hW
  obtain ⟨p, q, hA0, hV, rfl, hfz, hnd⟩ := hW
  have hA : DataW.TrodAll enc Try.prog W 0 (fun _ => true) true Try.f4.params.toList args.toList ds p := hA0
  rw [Try.params4] at hA hval hsz
  obtain ⟨v0, vs0, d0, ds0, p0, q0, hargs, rfl, rfl, h0, r0⟩ := trodAll_cons hA
  obtain ⟨v1, vs1, d1, ds1, p1, q1, rfl, rfl, rfl, h1, r1⟩ := trodAll_cons r0
  obtain ⟨v2, vs2, d2, ds2, p2, q2, rfl, rfl, rfl, h2, r2⟩ := trodAll_cons r1
  obtain ⟨rfl, rfl, rfl⟩ := trodAll_nil r2
  obtain rfl : args = #[v0, v1, v2] := by cases args; simp_all
  obtain ⟨rfl, rfl⟩ := trodVars_none hV
  obtain ⟨a0, len0, cap0, rfl⟩ := okWide_slice Try.underlying29 (hval 0 29 v0 rfl rfl)
  obtain ⟨a2, len2, cap2, rfl⟩ := okWide_slice Try.underlying22 (hval 2 22 v2 rfl rfl)
  have k0 := h0
  have k1 := h1
  have k2 := h2
  have lt0 : ∀ x ∈ p0, x.block < W.heap.size := by obtain ⟨m, hm⟩ := k0; exact DataW.trod_lt m _ _ _ hm
  have lt1 : ∀ x ∈ p1, x.block < W.heap.size := by obtain ⟨m, hm⟩ := k1; exact DataW.trod_lt m _ _ _ hm
  have lt2 : ∀ x ∈ p2, x.block < W.heap.size := by obtain ⟨m, hm⟩ := k2; exact DataW.trod_lt m _ _ _ hm
  have hmem : ∀ (j : Nat) t d, ([29, 9, 22] : List TypeId)[j]? = some t → [d0, d1, d2][j]? = some d → ∀ n ∈ d.weights Try.prog t, n ≤ reachBytes := fun j t d ht hd n hn => by
    have := List.all_eq_true.1 hsz n (DataW.weights_mem_each (ts := [29, 9, 22]) (ds := [d0, d1, d2]) ht hd n hn)
    simpa using this
  obtain ⟨f0, e0⟩ := h0
  obtain ⟨f2, e2⟩ := h2
  obtain ⟨A, c, L, hv0, hL, hlen⟩ := slots_of e0 (hmem 0 29 d0 rfl rfl)
  obtain ⟨xs, hxs⟩ := reads_of e2 (hmem 2 22 d2 rfl rfl)
  obtain ⟨nm, hv1, -⟩ := open_string Try.underlying9 (hval 1 9 v1 rfl rfl) h1
  subst hv1
  have hc := alone_calls (c := c) (name := nm) hL hlen hxs
  rw [← hv0] at hc
  clear hA0 hval0
  refine hc.mono fun e W' ⟨he, bel⟩ => ?_
  subst he
  exact ⟨_, rfl, _, _, _, [], _, [], hW', trodAll_mk1 (shut_bool Try.underlying4 _), (trodAll_cons_mk (Below.trod laidOut (by kernel_rfl) (of_decide_eq_true (by kernel_rfl)) k0 bel lt0) (trodAll_cons_mk (Below.trod laidOut (by kernel_rfl) (of_decide_eq_true (by kernel_rfl)) k1 bel lt1) (trodAll_cons_mk (Below.trod laidOut (by kernel_rfl) (of_decide_eq_true (by kernel_rfl)) k2 bel lt2) trodAll_mk0))), rfl, bel.frame _, fun h => by cases h⟩

theorem said : Rows.stmAloneRow.holds Try.pinned (OpenSpec.ofChange Rows.stmAloneSpec) :=
  OpenClaim.holds_of_wide 4 Try.f4 rfl rfl rfl rfl rfl rfl rfl ⟨rfl, rfl, rfl, rfl, rfl⟩ rfl rfl rfl rfl rfl (by kernel_rfl) Try.func4 (by kernel_rfl)
    (of_decide_eq_true (by kernel_rfl)) (by unfold Func.isWrapper; first | (rw [if_pos (by decide +kernel)]; kernel_rfl) | (rw [if_neg (by decide +kernel)]; exact ⟨rfl, rfl⟩))
    (fun os started H enc _ => lifted os started H enc)

end Go.Proofs.Ytkjliijcnllohaa.StmAlone
namespace Go.Proofs.Ytkjliijcnllohaa
/-- StmAlone, as it is said. -/
theorem stmAlone_holds : Rows.StmAloneSaid := StmAlone.said
#print axioms stmAlone_holds
end Go.Proofs.Ytkjliijcnllohaa
