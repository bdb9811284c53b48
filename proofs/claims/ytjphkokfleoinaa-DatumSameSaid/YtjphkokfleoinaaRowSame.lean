/- DatumSame: whatever two data come in, the law returns true and both read as they did. No condition. -/
import Derived.Test.YtjphkokfleoinaaRows
import Derived.Test.YtjphkokfleoinaaDx3
import Derived.Test.YtjphkokfleoinaaHSameRef
import Derived.WalkKit
import Derived.ProofKit
import Derived.OpenShut
import Derived.ChangeOld
import Derived.Below
import Derived.SizedLaws
namespace Go.Proofs.Ytjphkokfleoinaa.DatumSame
open Go.ChangeShapes Go.WideShapes Go.ChangeAt Go.RowKit
open Go.Proofs.Ytjphkokfleoinaa.D Go.Proofs.YtjphkokfleoinaaW.PrintWords
set_option linter.unusedVariables false

theorem pure_law (a b : S24) (ha : Fit a) (hb : Fit b) : ∃ k, rostrumlaw10_DatumSame.f k a.f0 a.f1 a.f2 a.f3 b.f0 b.f1 b.f2 b.f3 = some true := by
  obtain ⟨k, hk⟩ := (ref_same _ a b (Nat.le_refl _) ha).rounds
  refine ⟨k, ?_⟩
  simp only [rostrumlaw10_DatumSame.f, hk, datum_Same.f, Option.bind_some]
  obtain ⟨a0, a1, a2, a3⟩ := a
  obtain ⟨b0, b1, b2, b3⟩ := b
  rw [same_symm _ ⟨b0, b1, b2, b3⟩ ⟨a0, a1, a2, a3⟩ (Nat.le_refl _), same_refl _ ⟨a0, a1, a2, a3⟩ (Nat.le_refl _)]
  simp

theorem own : ownKnob Try.prog.godebug = none := by kernel_rfl
theorem laidOut : laidOutB Try.prog = true := by kernel_rfl

set_option maxRecDepth 100000 in
theorem lifted (os : Os) (started : os.Started) (H : Type) (enc : TypeId × Value → H) :
    ReturnsInHanded {} Try.checked os 3 .any (Rows.datumSameSpec.pre6 enc Try.prog Try.f3 Rows.datumSameRow.domain false) (Rows.datumSameSpec.post enc Try.prog Try.f3 false true false false) := by
  refine returnsInHanded_of_change (C := Try.checked) own started (by kernel_rfl) Try.func3
    (ChangeSpec.witness6 (enc := enc) (C := Try.checked) false ⟨#[], #[.agg #[.int .i64 0, .string ByteArray.empty, .slice none 0 0, .slice none 0 0], .agg #[.int .i64 0, .string ByteArray.empty, .slice none 0 0, .slice none 0 0]], []⟩ 8 (by kernel_rfl) (by kernel_rfl) (by kernel_rfl) (by kernel_rfl)) ?_
  intro W base args ds gs before hval0 hW hcnd _
  have hval : ∀ (j : Nat) t v, Try.f3.params[j]? = some t → args[j]? = some v → Value.okWide Try.prog W .any base t v := hval0
  have hW' := hW
  obtain ⟨p, q, hA0, hV, rfl, hfz, hnd⟩ := hW
  have hA : DataW.TrodAll enc Try.prog W 0 (fun _ => true) true Try.f3.params.toList args.toList ds p := hA0
  rw [Try.params3] at hA hval
  obtain ⟨v0, vs0, d0, ds0, p0, q0, hargs, rfl, rfl, h0, r0⟩ := trodAll_cons hA
  obtain ⟨v1, vs1, d1, ds1, p1, q1, rfl, rfl, rfl, h1, r1⟩ := trodAll_cons r0
  obtain ⟨rfl, rfl, rfl⟩ := trodAll_nil r1
  obtain rfl : args = #[v0, v1] := by cases args; simp_all
  obtain ⟨rfl, rfl⟩ := trodVars_none hV
  obtain ⟨cs0, rfl, hs0⟩ := okWide_struct Try.underlying24 (hval 0 24 v0 rfl rfl)
  obtain ⟨cs1, rfl, hs1⟩ := okWide_struct Try.underlying24 (hval 1 24 v1 rfl rfl)
  have k0 := h0
  have k1 := h1
  have lt0 : ∀ x ∈ p0, x.block < W.heap.size := by obtain ⟨m, hm⟩ := k0; exact DataW.trod_lt m _ _ _ hm
  have lt1 : ∀ x ∈ p1, x.block < W.heap.size := by obtain ⟨m, hm⟩ := k1; exact DataW.trod_lt m _ _ _ hm
  obtain ⟨f0, e0⟩ := h0
  obtain ⟨f1, e1⟩ := h1
  obtain ⟨a, ha, fa, -⟩ := open24 _ _ d0 p0 f0 (Nat.lt_succ_self _) e0
  obtain ⟨b, hb, fb, -⟩ := open24 _ _ d1 p1 f1 (Nat.lt_succ_self _) e1
  obtain ⟨A2, c2, A3, c3, ea, l2, g2, l3, g3⟩ := k24_open ha
  obtain ⟨B2, d2, B3, d3, eb, m2, j2, m3, j3⟩ := k24_open hb
  obtain ⟨k, hk⟩ := pure_law a b fa fb
  have va : (Value.agg cs0) = .agg #[.int .i64 a.f0, .string a.f1, .slice A2 a.f2.length c2, .slice A3 a.f3.length c3] := by
    have : cs0.toList = _ := ea
    rw [← Array.toArray_toList (xs := cs0), this]
  have vb : (Value.agg cs1) = .agg #[.int .i64 b.f0, .string b.f1, .slice B2 b.f2.length d2, .slice B3 b.f3.length d3] := by
    have : cs1.toList = _ := eb
    rw [← Array.toArray_toList (xs := cs1), this]
  have hc := rostrumlaw10_DatumSame.calls k a.f0 a.f1 A2 c2 a.f2 A3 c3 a.f3 b.f0 b.f1 B2 d2 b.f2 B3 d3 b.f3 true W g2 l2 g3 l3 j2 m2 j3 m3 hk
  rw [← va, ← vb] at hc
  clear hA0 hval0
  refine hc.mono fun e W' ⟨he, bel⟩ => ?_
  subst he
  exact ⟨_, rfl, _, _, _, [], _, [], hW', trodAll_mk1 (shut_bool Try.underlying4 _), (trodAll_cons_mk (Below.trod laidOut (by kernel_rfl) (of_decide_eq_true (by kernel_rfl)) k0 bel lt0) (trodAll_cons_mk (Below.trod laidOut (by kernel_rfl) (of_decide_eq_true (by kernel_rfl)) k1 bel lt1) trodAll_mk0)), rfl, bel.frame _, fun h => by cases h⟩

theorem over : Rows.datumSameRow.holds Try.pinned (OpenSpec.ofChange Rows.datumSameSpec) :=
  OpenClaim.holds_of_wide 3 Try.f3 rfl rfl rfl rfl rfl rfl rfl ⟨rfl, rfl, rfl, rfl, rfl⟩ rfl rfl rfl rfl rfl (by kernel_rfl) Try.func3 (by kernel_rfl)
    (of_decide_eq_true (by kernel_rfl)) (by unfold Func.isWrapper; first | (rw [if_pos (by decide +kernel)]; kernel_rfl) | (rw [if_neg (by decide +kernel)]; exact ⟨rfl, rfl⟩))
    (fun os started H enc _ => lifted os started H enc)

end Go.Proofs.Ytjphkokfleoinaa.DatumSame
namespace Go.Proofs.Ytjphkokfleoinaa
/-- DatumSame, as it is said. -/
theorem datumSame_holds : Rows.DatumSameSaid := DatumSame.over
#print axioms datumSame_holds
end Go.Proofs.Ytjphkokfleoinaa
