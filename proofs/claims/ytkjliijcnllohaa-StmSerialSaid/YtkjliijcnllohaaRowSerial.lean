/- StmSerial: whatever comes in, the law returns true and what came in reads as it did. No condition. -/
import Derived.Test.YtkjliijcnllohaaRows
import Derived.Test.YtkjliijcnllohaaHSer6
import Derived.WalkKit
import Derived.ProofKit
import Derived.OpenShut
import Derived.ChangeOld
import Derived.Below
import Derived.SizedLaws
import Derived.Deep.Slices
import Derived.Deep.Strs
import Derived.Lib.SmallJoins
namespace Go.Proofs.Ytkjliijcnllohaa.StmSerial
open Go.ChangeShapes Go.WideShapes Go.ChangeAt Go.RowKit Go.Deep Go.Joins
open Go.Proofs.Ytkjliijcnllohaa.S
open Go.ChangeMaps (open_string)
set_option linter.unusedVariables false

theorem own : ownKnob Try.prog.godebug = none := by kernel_rfl
theorem laidOut : laidOutB Try.prog = true := by kernel_rfl
theorem bytes5 : Try.prog.bytesOf 5 = 1 := by kernel_rfl
theorem bytes28 : Try.prog.bytesOf 28 = 48 := by kernel_rfl
theorem cells5 : Try.prog.cellsOf 5 = 1 := by kernel_rfl

theorem weights_all {H : Type} {P : Program} {e : TypeId} {d : DataW H} : ∀ {l : List (DataW H)}, d ∈ l → ∀ n ∈ d.weights P e, n ∈ DataW.weightsAll P e l
  | a :: l, hd, n, hn => by
    simp only [DataW.weightsAll, List.mem_append]
    rcases List.mem_cons.1 hd with rfl | hd
    · exact .inl hn
    · exact .inr (weights_all hd n hn)

theorem reads_of {H : Type} {enc : TypeId × Value → H} {W : World} {v : Value} {fuel : Nat} {d : DataW H} {p : List MemPlace}
    (hf : DataW.trod enc Try.prog W 0 (fun _ => true) true fuel 22 [v] = some (d, p)) (hsz : ∀ n ∈ d.weights Try.prog 22, n ≤ reachBytes) : ∃ xs, Reads W v xs := by
  rcases open_ints Try.underlying22 Try.underlying5 cells5 hf with ⟨hcs, hx⟩ | ⟨a, len', cap', zs, hcs, _, hl, hm, hz, hx, hcell, hwz⟩
  · simp only [List.cons.injEq, and_true] at hcs
    rw [hcs]
    exact ⟨[], by simp, .inl ⟨rfl, rfl⟩⟩
  · simp only [List.cons.injEq, and_true] at hcs
    subst hcs
    simp only [Prod.mk.injEq] at hx
    obtain ⟨rfl, rfl⟩ := hx
    have h1 := hsz _ (by simp only [DataW.weights, Try.underlying22]; exact List.mem_cons_self ..)
    rw [bytes5] at h1
    have h2 := reachBytes_lt
    simp only [if_true] at hz
    have hlen : (zs.take len').length = len' := by simp; omega
    refine ⟨zs.take len', ?_, .inr ⟨a, cap', by rw [hlen], fun i hi => ?_⟩⟩
    · rw [hlen]
      simp only [lits, List.length_map, List.length_take, List.length_drop] at h1
      omega
    · rw [hlen] at hi
      rw [hcell i (by omega)]
      simp [List.getD, hi]

theorem bytes50 : Try.prog.bytesOf 50 = 56 := by kernel_rfl
theorem trod_struct4 {H : Type} {enc : TypeId × Value → H} {w : World} {base : Nat} {spare : Nat → Bool} {held : Bool} {P : Program} {t : TypeId} {f0 f1 f2 f3 : Field} {fuel : Nat} {cs : List Value} {x : DataW H × List MemPlace} (ht : P.underlying t = some (.struct #[f0, f1, f2, f3])) (h : DataW.trod enc P w base spare held fuel t cs = some x) :
    ∃ y0 y1 y2 y3 n, x.1 = .agg [y0.1, y1.1, y2.1, y3.1] ∧ cs.length = P.cellsOf t ∧ DataW.trod enc P w base spare held n f0.type ((cs.drop f0.offset).take (P.cellsOf f0.type)) = some y0 ∧
      DataW.trod enc P w base spare held n f1.type ((cs.drop f1.offset).take (P.cellsOf f1.type)) = some y1 ∧ DataW.trod enc P w base spare held n f2.type ((cs.drop f2.offset).take (P.cellsOf f2.type)) = some y2 ∧
      DataW.trod enc P w base spare held n f3.type ((cs.drop f3.offset).take (P.cellsOf f3.type)) = some y3 := by
  obtain ⟨xs, n, _, rfl, hl, hlen, hf⟩ := DataW.trod_struct ht h
  match xs, hlen with
  | [y0, y1, y2, y3], _ => exact ⟨y0, y1, y2, y3, n, by simp, hl, by simpa using hf 0 f0 rfl, by simpa using hf 1 f1 rfl, by simpa using hf 2 f2 rfl, by simpa using hf 3 f3 rfl⟩
theorem int_bounds {n : Int} (h : (Lit.int .i64 n).wf = true) : -9223372036854775808 ≤ n ∧ n ≤ 9223372036854775807 := by
  have e1 : IntKind.i64.min = -9223372036854775808 := rfl
  have e2 : IntKind.i64.max = 9223372036854775807 := rfl
  simp [Lit.wf, e1, e2] at h
  exact h
/-- What is told of one call in memory. -/
def OneDo (W : World) (q : Addr) (x : DA) : Prop := W.cell? q = some (.int .i64 x.op) ∧ W.cell? ⟨q.block, q.off + 1, none⟩ = some (.int .i64 x.tx) ∧ W.cell? ⟨q.block, q.off + 2, none⟩ = some (.string x.nm) ∧ W.cell? ⟨q.block, q.off + 3, none⟩ = some x.v ∧ Reads W x.v x.bs ∧ x.nm.size ≤ 9223372036854775807 ∧ (-9223372036854775808 ≤ x.op ∧ x.op ≤ 9223372036854775807) ∧ (-9223372036854775808 ≤ x.tx ∧ x.tx ≤ 9223372036854775807)
set_option maxRecDepth 100000 in
theorem dos_of {H : Type} {enc : TypeId × Value → H} {W : World} {v : Value} {fuel : Nat} {d : DataW H} {p : List MemPlace}
    (hf : DataW.trod enc Try.prog W 0 (fun _ => true) true fuel 45 [v] = some (d, p)) (hsz : ∀ n ∈ d.weights Try.prog 45, n ≤ reachBytes) : ∃ A c L, v = .slice A (List.length L) c ∧ DosIn W A L := by
  have h2 := reachBytes_lt
  rcases open_slice Try.underlying45 hf with ⟨hcs, hx⟩ | ⟨a, len, cap, m, n', D, Pl, hcs, _, hl, hm, hmm, hx, hi⟩
  · simp only [List.cons.injEq, and_true] at hcs
    exact ⟨none, 0, [], hcs, ⟨by simp, fun i h => by simp at h⟩⟩
  · simp only [List.cons.injEq, and_true] at hcs
    simp only [Prod.mk.injEq] at hx
    obtain ⟨rfl, -⟩ := hx
    simp only [DataW.weights, Try.underlying45] at hsz
    have hlm : len ≤ m := by rw [hmm]; split <;> omega
    have h0 := hsz _ (List.mem_cons_self ..)
    rw [bytes50] at h0
    simp only [List.length_map, List.length_range] at h0
    have key : ∀ i, i < len → ∃ x : DA, OneDo W (a.add (i * 4)) x := by
      intro i hil
      obtain ⟨cs', hc, ht⟩ := hi i (by omega)
      rw [show Try.prog.cellsOf 50 = 4 from by kernel_rfl] at hc
      obtain ⟨_, hcl, hat⟩ := World.cells?_some hc
      obtain ⟨y0, y1, y2, y3, k, hx, hlen, q0, q1, q2, q3⟩ := trod_struct4 Try.underlying50 ht
      have hc3 : Try.prog.cellsOf 3 = 1 := by kernel_rfl
      have hc9 : Try.prog.cellsOf 9 = 1 := by kernel_rfl
      have hc22 : Try.prog.cellsOf 22 = 1 := by kernel_rfl
      match cs', hcl with
      | [v0, v1, v2, v3], _ =>
      simp only [hc3, hc9, hc22, List.drop_zero, List.take_succ_cons, List.take_zero, List.drop_succ_cons] at q0 q1 q2 q3
      obtain ⟨op, e0, rfl, hk0⟩ := DataW.trod_int Try.underlying3 q0
      obtain ⟨tx, e1, rfl, hk1⟩ := DataW.trod_int Try.underlying3 q1
      obtain ⟨nm, e2, rfl, hk2⟩ := DataW.trod_string Try.underlying9 q2
      simp only [List.cons.injEq, and_true] at e0 e1 e2
      subst e0 e1 e2
      obtain ⟨xs, hxs⟩ := reads_of (v := v3) (d := y3.1) (p := y3.2) q3 (fun n hn => hsz n (by
        refine List.mem_cons_of_mem _ (List.mem_append_left _ ?_)
        refine weights_all (d := D i) (List.mem_map.2 ⟨i, List.mem_range.2 hil, rfl⟩) n ?_
        have hD : D i = .agg [.lit (.int .i64 op), .lit (.int .i64 tx), .lit (.string nm.data.toList), y3.1] := hx
        rw [hD]
        simp only [DataW.weights, Try.underlying50]
        exact DataW.weights_mem_each (j := 3) rfl rfl n hn))
      have a0 := hat 0 (by omega)
      have a1 := hat 1 (by omega)
      have a2 := hat 2 (by omega)
      have a3 := hat 3 (by omega)
      exact ⟨⟨op, tx, nm, v3, xs⟩, a0, a1, a2, a3, hxs, by unfold maxLen at hk2; exact hk2, int_bounds hk0, int_bounds hk1⟩
    let f : Nat → DA := fun i => if h : i < len then Classical.choose (key i h) else ⟨0, 0, .empty, .slice none 0 0, []⟩
    have hf : ∀ i, i < len → OneDo W (a.add (i * 4)) (f i) := by
      intro i h
      have := Classical.choose_spec (key i h)
      simp only [f, dif_pos h]
      exact this
    refine ⟨some a, cap, (List.range len).map f, by rw [hcs]; simp, ⟨by simp only [List.length_map, List.length_range]; omega, fun i hi' => ?_⟩⟩
    have hil : i < len := by simpa using hi'
    have he : ((List.range len).map f)[i] = f i := by simp
    rw [he]
    exact ⟨a, rfl, hf i hil⟩

set_option maxRecDepth 100000 in
theorem lifted (os : Os) (started : os.Started) (H : Type) (enc : TypeId × Value → H) :
    ReturnsInHanded {} Try.checked os 5 .any (Rows.stmSerialSpec.pre6 enc Try.prog Try.f5 Rows.stmSerialRow.domain false) (Rows.stmSerialSpec.post enc Try.prog Try.f5 false true false false) := by
  refine returnsInHanded_of_change_sized (C := Try.checked) own started (by kernel_rfl) Try.func5
    (ChangeSpec.witness6 (enc := enc) (C := Try.checked) false ⟨#[], #[.slice none 0 0], []⟩ 8 (by kernel_rfl) (by kernel_rfl) (by kernel_rfl) (by kernel_rfl)) ?_
  intro W base args ds gs before hval0 hW _ hsz0 _
  have hsz : (DataW.weightsEach Try.prog (Try.f5.params.toList ++ Rows.stmSerialSpec.plain.varTypes Try.prog) (ds ++ gs)).all (· ≤ reachBytes) = true := hsz0
  clear hsz0
  have hval : ∀ (j : Nat) t v, Try.f5.params[j]? = some t → args[j]? = some v → Value.okWide Try.prog W .any base t v := hval0
  have hW' := hW
  obtain ⟨p, q, hA0, hV, rfl, hfz, hnd⟩ := hW
  have hA : DataW.TrodAll enc Try.prog W 0 (fun _ => true) true Try.f5.params.toList args.toList ds p := hA0
  rw [Try.params5] at hA hval hsz
  obtain ⟨v0, vs0, d0, ds0, p0, q0, hargs, rfl, rfl, h0, r0⟩ := trodAll_cons hA
  obtain ⟨rfl, rfl, rfl⟩ := trodAll_nil r0
  obtain rfl : args = #[v0] := by cases args; simp_all
  obtain ⟨rfl, rfl⟩ := trodVars_none hV
  obtain ⟨a0, len0, cap0, rfl⟩ := okWide_slice Try.underlying45 (hval 0 45 v0 rfl rfl)
  have k0 := h0
  have lt0 : ∀ x ∈ p0, x.block < W.heap.size := by obtain ⟨m, hm⟩ := k0; exact DataW.trod_lt m _ _ _ hm
  have hmem : ∀ n ∈ d0.weights Try.prog 45, n ≤ reachBytes := fun n hn => by
    have := List.all_eq_true.1 hsz n (DataW.weights_mem_each (j := 0) (ts := [45]) (ds := [d0]) rfl rfl n hn)
    simpa using this
  obtain ⟨f0, e0⟩ := h0
  obtain ⟨A, c, L, hv0, hL⟩ := dos_of e0 hmem
  have hc := serial_calls (c := c) hL
  rw [← hv0] at hc
  clear hA0 hval0
  refine hc.mono fun e W' ⟨he, bel⟩ => ?_
  subst he
  exact ⟨_, rfl, _, _, _, [], _, [], hW', trodAll_mk1 (shut_bool Try.underlying4 _), (trodAll_cons_mk (Below.trod laidOut (by kernel_rfl) (of_decide_eq_true (by kernel_rfl)) k0 bel lt0) trodAll_mk0), rfl, bel.frame _, fun h => by cases h⟩

theorem said : Rows.stmSerialRow.holds Try.pinned (OpenSpec.ofChange Rows.stmSerialSpec) :=
  OpenClaim.holds_of_wide 5 Try.f5 rfl rfl rfl rfl rfl rfl rfl ⟨rfl, rfl, rfl, rfl, rfl⟩ rfl rfl rfl rfl rfl (by kernel_rfl) Try.func5 (by kernel_rfl)
    (of_decide_eq_true (by kernel_rfl)) (by unfold Func.isWrapper; first | (rw [if_pos (by decide +kernel)]; kernel_rfl) | (rw [if_neg (by decide +kernel)]; exact ⟨rfl, rfl⟩))
    (fun os started H enc _ => lifted os started H enc)

end Go.Proofs.Ytkjliijcnllohaa.StmSerial
namespace Go.Proofs.Ytkjliijcnllohaa
/-- StmSerial, as it is said. -/
theorem stmSerial_holds : Rows.StmSerialSaid := StmSerial.said
#print axioms stmSerial_holds
end Go.Proofs.Ytkjliijcnllohaa
