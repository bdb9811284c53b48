/- number.Compare of a numeral with itself. -/
import Derived.Test.YtlnneellihkdkaaDoorDx1
import Derived.Test.YtlnneellihkdkaaDoorDx15
import Derived.Test.YtlnneellihkdkaaDoorHMul
namespace Go.Proofs.YtlnneellihkdkaaDoor.D
open Go Go.Proofs Go.RowKit Go.Shelf Go.Proofs.YtlnneellihkdkaaDoorW.PrintWords Go.Proofs.YtlnneellihkdkaaDoorW.PrintLast Go.Proofs.YtlnneellihkdkaaDoorW.PrintMore
set_option linter.unusedVariables false
set_option linter.unusedSimpArgs false

def sgnI (b : Bool) : Int := if b = true then -1 else 1
theorem sign_calls (b : Bool) (w : World) : Calls Tryd.prog 39 #[.bool b] w fun e w' => e = .returned (.int .i64 (sgnI b)) ∧ w' = w := by
  unfold sgnI
  go_enter Tryd.func39, Tryd.ntmps39
  cases b
  · go_wp2
    all_goals go_ret
    all_goals exact ⟨rfl, rfl⟩
  · go_wp2
    all_goals go_ret
    all_goals exact ⟨rfl, rfl⟩

set_option maxRecDepth 100000 in
set_option maxHeartbeats 4000000 in
theorem compare_same (a : ByteArray) (ha : a.size ≤ 9223372036854775807) (hca : N.canU a.data.toList = true) (w : World) :
    Calls Tryd.prog 21 #[.string a, .string a] w fun e w' => e = .returned (.tuple #[.int .i64 0, .int .i64 0]) ∧ Below w.heap.size w w' := by
  obtain ⟨la1, la2, la3, la4⟩ := limbs_val hca
  obtain ⟨kc, hkc⟩ := Ev.rounds (can_prog_u a ha)
  rw [hca] at hkc
  obtain ⟨ks, hks⟩ := Ev.rounds (size_prog_ev (limbsU a.data.toList) (limbsU a.data.toList) la2 la2 (by omega) (by omega))
  rw [show cmpI (vB G (limbsU a.data.toList)) (vB G (limbsU a.data.toList)) = 0 by unfold cmpI; rw [if_neg (by omega), if_pos rfl]] at hks
  have HC := Aside0.mk (fun W => number_Can.calls kc a true W hkc)
  have HK := Aside0.mk hks
  clear hkc hks
  go_enter Tryd.func21, Tryd.ntmps21
  have HB := Aside0.mk (Below.refl w.heap.size w)
  go_wp2_with (first
    | (go_at_call 12; refine (HC.out _).mono ?_; rintro e w1 ⟨rfl, hd1⟩; have n_ := Aside0.mk (HB.out.trans (hd1.below.mono HB.out.size)); clear HB; have HB := n_; clear n_ hd1))
  go_at_call 33
  refine (parse_ok a ha hca _).mono ?_
  rintro e w1' ⟨A, c, rfl, hV, hB⟩
  go_wp2_with fail
  go_at_call 33
  refine (parse_ok a ha hca _).mono ?_
  rintro e w2 ⟨A2, c2, rfl, hV2, hB2⟩
  go_wp2_with fail
  have hb0 := two_new w2 (.cells #[.slice A (limbsU a.data.toList).length c, .bool (negU a.data.toList)] 45) (.cells #[.slice A2 (limbsU a.data.toList).length c2, .bool (negU a.data.toList)] 45)
  have hx : ((w2.alloc (.cells #[.slice A (limbsU a.data.toList).length c, .bool (negU a.data.toList)] 45)).alloc (.cells #[.slice A2 (limbsU a.data.toList).length c2, .bool (negU a.data.toList)] 45)).heap[w2.heap.size]? = some (.cells #[.slice A (limbsU a.data.toList).length c, .bool (negU a.data.toList)] 45 (0, 0)) := blk_alloc (World.alloc_heap_new w2 _) _
  have hy : ((w2.alloc (.cells #[.slice A (limbsU a.data.toList).length c, .bool (negU a.data.toList)] 45)).alloc (.cells #[.slice A2 (limbsU a.data.toList).length c2, .bool (negU a.data.toList)] 45)).heap[w2.heap.size + 1]? = some (.cells #[.slice A2 (limbsU a.data.toList).length c2, .bool (negU a.data.toList)] 45 (0, 0)) := by
    have := World.alloc_heap_new (w2.alloc (.cells #[.slice A (limbsU a.data.toList).length c, .bool (negU a.data.toList)] 45)) (.cells #[.slice A2 (limbsU a.data.toList).length c2, .bool (negU a.data.toList)] 45)
    simpa using this
  generalize ((w2.alloc (.cells #[.slice A (limbsU a.data.toList).length c, .bool (negU a.data.toList)] 45)).alloc (.cells #[.slice A2 (limbsU a.data.toList).length c2, .bool (negU a.data.toList)] 45)) = W0 at *
  have HX := Aside0.mk (blk_drew hx)
  have HY := Aside0.mk (blk_drew hy)
  have HVA := Aside0.mk (Kd.V_drew (Kd.V_below (Kd.V_below hV hB2) hb0))
  have HVB := Aside0.mk (Kd.V_drew (Kd.V_below hV2 hb0))
  have HBW := Aside0.mk (below_drew1 ((HB.out.trans (hB.mono HB.out.size)).trans ((hB2.trans (hb0.mono hB2.size)).mono (Nat.le_trans HB.out.size hB.size))))
  have hl1 := (Kd.V_reads' hV).2.1
  have hl2 := (Kd.V_reads' hV2).2.1
  clear hx hy hV hV2 hb0 hB hB2
  go_region_held3 (fun w' => w'.cell? ⟨w2.heap.size, 0, none⟩ = some (.slice A (limbsU a.data.toList).length c) ∧ w'.cell? ⟨w2.heap.size, 1, none⟩ = some (.bool (negU a.data.toList)) ∧ w'.cell? ⟨w2.heap.size + 1, 0, none⟩ = some (.slice A2 (limbsU a.data.toList).length c2) ∧ w'.cell? ⟨w2.heap.size + 1, 1, none⟩ = some (.bool (negU a.data.toList))) (first | with_reducible exact S4 HX.out HY.out | with_reducible exact S4 HX3.out HY3.out)
    (first
    | (go_at_call 40; refine (number_size.calls ks A c _ A2 c2 _ 0 _ (Kd.V_reads' HVA.out).2.2 hl1 (Kd.V_reads' HVB.out).2.2 hl2 HK.out).mono ?_; rintro e w3 ⟨rfl, hB3⟩
       have HB3 := Aside0.mk (HBW.out.trans (hB3.mono HBW.out.size))
       have HX3 := Aside0.mk (blk_below HX.out hB3)
       have HY3 := Aside0.mk (blk_below HY.out hB3)
       clear hB3)
    | (go_at_call 39; refine (sign_calls _ _).mono ?_; rintro e w4 ⟨rfl, rfl⟩))
  all_goals go_wp2
  go_ret2
  exact ⟨rfl, HB3.out⟩
end Go.Proofs.YtlnneellihkdkaaDoor.D
