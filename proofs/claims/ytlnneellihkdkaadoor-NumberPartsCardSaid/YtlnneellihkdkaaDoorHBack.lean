/- slices.Backward over limbs: what it hands back gives them from behind. -/
import Derived.Test.YtlnneellihkdkaaDoorHNumA
import Derived.RangeFuncNested
import Derived.RangeFuncBound
import Derived.RangeFuncCalls
import Derived.RangeFuncLeaves
import Derived.Shelf.Abstract
import Derived.Shelf.RegionOpen
import Derived.WalkKit
import Derived.OwnWalkIn
import Derived.TacticsInMore
import Derived.LoopNIn
import Derived.LoopIn
namespace Go.Proofs.YtlnneellihkdkaaDoor.D
open Go Go.Proofs Go.RowKit Go.Shelf Go.Proofs.YtlnneellihkdkaaDoorW.PrintWords Go.Proofs.YtlnneellihkdkaaDoorW.PrintLast Go.Proofs.YtlnneellihkdkaaDoorW.PrintMore
attribute [local go_sem] Oper.semAt_some
set_option linter.unusedVariables false
set_option linter.unusedSimpArgs false

/-- From behind: the places len-1, len-2, .. of which k. -/
def downTo {α : Type} (f : Nat → α) (len k : Nat) : List α := (List.range k).map fun t => f (len - 1 - t)
theorem downTo_length {α : Type} (f : Nat → α) (len k : Nat) : (downTo f len k).length = k := by simp [downTo]
theorem downTo_succ {α : Type} (f : Nat → α) (len k : Nat) : downTo f len (k + 1) = downTo f len k ++ [f (len - 1 - k)] := by simp [downTo, List.range_succ]

/-- What a round is handed: a place and a limb. -/
abbrev PL : Type := { p : Nat × Nat // p.2 < 1000000000 ∧ p.1 < 1000000 }
abbrev encPL (x : PL) : Array Value := #[Value.int .i64 (x.1.1 : Int), Value.int .u64 (x.1.2 : Int)]

theorem add_block' (ad : Addr) (j : Nat) : (ad.add j).block = ad.block := by unfold Addr.add; split <;> rfl
/-- What a round keeps: the blocks below a bound, and one more. -/
def KpS (b0 Bs : Nat) (W W' : World) : Prop := (∀ k, k < b0 → W'.heap[k]? = W.heap[k]?) ∧ W'.heap[Bs]? = W.heap[Bs]?
theorem KpS.refl (b0 Bs : Nat) (W : World) : KpS b0 Bs W W := ⟨fun _ _ => rfl, rfl⟩
theorem KpS.trans {b0 Bs : Nat} {A B C : World} (h : KpS b0 Bs A B) (k : KpS b0 Bs B C) : KpS b0 Bs A C := ⟨fun i hi => (k.1 i hi).trans (h.1 i hi), k.2.trans h.2⟩
theorem KpS.put {b0 Bs : Nat} {w : World} (h0 : b0 ≤ w.heap.size) (h1 : Bs < w.heap.size) (W : World) (l : Nat) (o o' : Obj) (hl : w.heap.size ≤ l) (_ : W.heap[l]? = some o) (_ : o.isCells = false) (_ : o.isWalk = false) : KpS b0 Bs W (W.putObj l o') :=
  ⟨fun k hk => World.putObj_heap_other (by omega), World.putObj_heap_other (by omega)⟩
theorem KpS.cell {b0 Bs : Nat} {W W' : World} (h : KpS b0 Bs W W') (k o : Nat) (hk : k < b0 ∨ k = Bs) : W'.cell? ⟨k, o, none⟩ = W.cell? ⟨k, o, none⟩ := by
  refine World.cell?_of_block ?_
  rcases hk with hk | rfl
  · exact h.1 k hk
  · exact h.2
theorem KpS.grown {b0 Bs : Nat} {A W W' : World} {row : Option Nat} (h : KpS b0 Bs A W) (hb0 : b0 ≤ A.heap.size) (hBs : Bs < A.heap.size) (hA : A.heap.size ≤ W.heap.size) (hg : W.grownBy W' row) (hr : ∀ r, row = some r → A.heap.size ≤ r) : KpS b0 Bs A W' :=
  ⟨fun k hk => (hg.block k (by omega) (fun e => by have := hr k e.symm; omega)).trans (h.1 k hk), (hg.block Bs (by omega) (fun e => by have := hr Bs e.symm; omega)).trans h.2⟩

set_option maxRecDepth 100000 in
set_option maxHeartbeats 1000000 in
theorem back1_in (F : Fence) (n : Nat) (h8 : F.fn 69) (hro : F.round = none) (hn : 1 ≤ n) (l Bs n₀ len cap : Nat) (ad : Addr) (f : Nat → PL) (hf : ∀ j, j < len → (f j).1.1 = j) (hreach : len ≤ 1000000) (hb : ad.block < n₀) (J Jx : List PL → World → Prop)
    (hY : ∀ pre x W, J pre W → pre.length < len → YieldAt F (n - 1) Tryd.prog l (encPL x) W fun e W' =>
      (e = .returned (.bool true) ∧ J (pre ++ [x]) W' ∧ KpS n₀ Bs W W') ∨ (e = .returned (.bool false) ∧ Jx (pre ++ [x]) W'))
    (W : World) (hBs : W.cell? ⟨Bs, 0, none⟩ = some (.slice (some ad) len cap)) (hc : ∀ j, j < len → W.cell? (ad.add j) = some (.int .u64 ((f j).1.2 : Int))) (h0 : J [] W) :
    CallsIn F n Tryd.prog 69 #[.func (.yield l) #[] #[], .pointer (some ⟨Bs, 0, none⟩)] W fun e W' => (∃ v, e = .returned v) ∧
      ((∃ ys, ys = downTo f len len ∧ J ys W') ∨ (∃ pre, (∃ k, k ≤ len ∧ pre = downTo f len k) ∧ Jx pre W')) := by
  refine callsIn_of_wp Tryd.func69 rfl h8 ?_ hro
  simp only [Tryd.ntmps69, List.size_toArray, List.length_cons, List.length_nil, Nat.reduceAdd, Nat.reduceSub, Array.replicate_succ, Array.replicate_zero, List.push_toArray, List.append_toArray, List.nil_append, List.cons_append]
  gi_wp2
  gi_loopw [3] (fun i wr => ∃ k : Nat, k ≤ len ∧ i = .int .i64 ((len : Int) - 1 - k) ∧ J (downTo f len k) wr ∧ KpS n₀ Bs W wr)
    (fun i _ => (intOf i + 1).toNat)
  case atStart => exact ⟨0, Nat.zero_le _, by simp, h0, KpS.refl _ _ _⟩
  case round =>
    obtain ⟨k, hk, rfl, hJs, hnx⟩ := hrel
    have hcx : k < len → wr.cell? (ad.add (len - 1 - k)) = some (.int .u64 ((f (len - 1 - k)).1.2 : Int)) := fun h => (World.cell?_of_block (hnx.1 _ (by rw [add_block']; exact hb))).trans (hc _ (by omega))
    have hbs : wr.cell? ⟨Bs, 0, none⟩ = some (.slice (some ad) len cap) := (hnx.cell Bs 0 (.inr rfl)).trans hBs
    by_cases hlt : k < len
    · obtain ⟨fn, tmps, assign, body, hy, hR⟩ := hY _ (f (len - 1 - k)) wr hJs (by rw [downTo_length]; exact hlt)
      have hfj := hf (len - 1 - k) (by omega)
      have ej : (((f (len - 1 - k)).1.1 : Nat) : Int) = (len : Int) - 1 - k := by rw [hfj]; omega
      dsimp only [encPL] at hy
      rw [ej] at hy
      have hcx' := hcx hlt
      have htn : ((len : Int) - 1 - k).toNat = len - 1 - k := by omega
      have hge : (0 : Int) ≤ (len : Int) - 1 - k := by omega
      have hlt2 : (len : Int) - 1 - k < len := by omega
      clear hcx
      gi_wp2
      refine hR.mono ?_
      rintro e W3 (⟨rfl, hJ3, hk3⟩ | ⟨rfl, hJx3⟩)
      · gi_wp2
        go_roundw
        case rel => exact ⟨k + 1, by omega, by simp; omega, by rw [downTo_succ]; exact hJ3, hnx.trans hk3⟩
        case measure => simp [intOf]; omega
      · gi_wp2
        refine bodyPost_ret (results_none rfl _ _ _) rfl ?_
        exact ⟨⟨_, rfl⟩, .inr ⟨_, ⟨k + 1, by omega, (downTo_succ _ _ _).symm⟩, hJx3⟩⟩
    · obtain rfl : k = len := by omega
      have hneg : ¬ (0 : Int) ≤ (k : Int) - 1 - k := by omega
      gi_wp2
      go_end0
      first | exact ⟨⟨_, rfl⟩, .inl hJs⟩ | exact ⟨⟨_, rfl⟩, .inl ⟨_, rfl, hJs⟩⟩
set_option maxHeartbeats 1000000 in
theorem back_in (F : Fence) (n : Nat) (h6 : F.fn 52) (hro : F.round = none) (a : Option Addr) (len cap : Nat) (w : World) :
    CallsIn F n Tryd.prog 52 #[.slice a len cap] w fun e w' => e = .returned (.func (.func 69) #[] #[.pointer (some ⟨w.heap.size, 0, none⟩)]) ∧ w' = w.alloc (.cells #[.slice a len cap] 43) := by
  refine callsIn_of_wp Tryd.func52 rfl h6 ?_ hro
  simp only [Tryd.ntmps52, List.size_toArray, List.length_cons, List.length_nil, Nat.reduceAdd, Nat.reduceSub, Array.replicate_succ, Array.replicate_zero, List.push_toArray, List.append_toArray, List.nil_append, List.cons_append]
  gi_wp2
  go_ret
  exact ⟨rfl, rfl⟩

/-- What slices.Backward hands back gives the limbs from behind. -/
theorem back_stops (F : Fence) (n : Nat) (h8 : F.fn 69) (hro : F.round = none) (hn : 1 ≤ n) (Bs n₀ len cap : Nat) (ad : Addr) (f : Nat → PL) (hf : ∀ j, j < len → (f j).1.1 = j) (hreach : len ≤ 1000000) (hb : ad.block < n₀) (w : World) (hBl : Bs < w.heap.size) (hbl : ad.block < w.heap.size)
    (hBs : w.cell? ⟨Bs, 0, none⟩ = some (.slice (some ad) len cap)) (hc : ∀ j, j < len → w.cell? (ad.add j) = some (.int .u64 ((f j).1.2 : Int))) :
    SeqStopsK F n Tryd.prog 69 #[.pointer (some ⟨Bs, 0, none⟩)] encPL (KpS n₀ Bs) (fun ys => ys = downTo f len len) (fun pre => ∃ k, k ≤ len ∧ pre = downTo f len k) len w := fun l J Jx W hW _ _ hY h0 =>
  back1_in F n h8 hro hn l Bs n₀ len cap ad f hf hreach hb J Jx hY W ((hW.cell (p := ⟨Bs, 0, none⟩) hBl).trans hBs) (fun j hj => (hW.cell (p := ad.add j) (by rw [add_block']; exact hbl)).trans (hc j hj)) h0
end Go.Proofs.YtlnneellihkdkaaDoor.D
