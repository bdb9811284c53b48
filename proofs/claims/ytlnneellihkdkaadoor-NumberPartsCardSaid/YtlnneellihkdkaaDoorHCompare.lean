/- number.Compare of a numeral with itself. number.Compare. -/
import Derived.Test.YtlnneellihkdkaaDoorDx1
import Derived.Test.YtlnneellihkdkaaDoorDx15
import Derived.Test.YtlnneellihkdkaaDoorHText
namespace Go.Proofs.YtlnneellihkdkaaDoor.D
open Go Go.Proofs Go.RowKit Go.Shelf Go.Proofs.YtlnneellihkdkaaDoorW.PrintWords Go.Proofs.YtlnneellihkdkaaDoorW.PrintLast Go.Proofs.YtlnneellihkdkaaDoorW.PrintMore
set_option linter.unusedVariables false
set_option linter.unusedSimpArgs false

def sgnI (b : Bool) : Int := if b = true then -1 else 1
theorem sign_calls (b : Bool) (w : World) : Calls Tryd.prog 39 #[.bool b] w fun e w' => e = .returned (.int .i64 (sgnI b)) ∧ w' = w := by
  unfold sgnI
  go_enter Tryd.func39, Tryd.ntmps39
  cases b
  · go_wp2
    all_goals go_ret
    all_goals exact ⟨rfl, rfl⟩
  · go_wp2
    all_goals go_ret
    all_goals exact ⟨rfl, rfl⟩

set_option maxRecDepth 100000 in
set_option maxHeartbeats 4000000 in
theorem compare_same (a : ByteArray) (ha : a.size ≤ 9223372036854775807) (hca : N.canU a.data.toList = true) (w : World) :
    Calls Tryd.prog 21 #[.string a, .string a] w fun e w' => e = .returned (.tuple #[.int .i64 0, .int .i64 0]) ∧ Below w.heap.size w w' := by
  obtain ⟨la1, la2, la3, la4⟩ := limbs_val hca
  obtain ⟨kc, hkc⟩ := Ev.rounds (can_prog_u a ha)
  rw [hca] at hkc
  obtain ⟨ks, hks⟩ := Ev.rounds (size_prog_ev (limbsU a.data.toList) (limbsU a.data.toList) la2 la2 (by omega) (by omega))
  rw [show cmpI (vB G (limbsU a.data.toList)) (vB G (limbsU a.data.toList)) = 0 by unfold cmpI; rw [if_neg (by omega), if_pos rfl]] at hks
  have HC := Aside0.mk (fun W => number_Can.calls kc a true W hkc)
  have HK := Aside0.mk hks
  clear hkc hks
  go_enter Tryd.func21, Tryd.ntmps21
  have HB := Aside0.mk (Below.refl w.heap.size w)
  go_wp2_with (first
    | (go_at_call 12; refine (HC.out _).mono ?_; rintro e w1 ⟨rfl, hd1⟩; have n_ := Aside0.mk (HB.out.trans (hd1.below.mono HB.out.size)); clear HB; have HB := n_; clear n_ hd1))
  go_at_call 33
  refine (parse_ok a ha hca _).mono ?_
  rintro e w1' ⟨A, c, rfl, hV, hB⟩
  go_wp2_with fail
  go_at_call 33
  refine (parse_ok a ha hca _).mono ?_
  rintro e w2 ⟨A2, c2, rfl, hV2, hB2⟩
  go_wp2_with fail
  have hb0 := two_new w2 (.cells #[.slice A (limbsU a.data.toList).length c, .bool (negU a.data.toList)] 45) (.cells #[.slice A2 (limbsU a.data.toList).length c2, .bool (negU a.data.toList)] 45)
  have hx : ((w2.alloc (.cells #[.slice A (limbsU a.data.toList).length c, .bool (negU a.data.toList)] 45)).alloc (.cells #[.slice A2 (limbsU a.data.toList).length c2, .bool (negU a.data.toList)] 45)).heap[w2.heap.size]? = some (.cells #[.slice A (limbsU a.data.toList).length c, .bool (negU a.data.toList)] 45 (0, 0)) := blk_alloc (World.alloc_heap_new w2 _) _
  have hy : ((w2.alloc (.cells #[.slice A (limbsU a.data.toList).length c, .bool (negU a.data.toList)] 45)).alloc (.cells #[.slice A2 (limbsU a.data.toList).length c2, .bool (negU a.data.toList)] 45)).heap[w2.heap.size + 1]? = some (.cells #[.slice A2 (limbsU a.data.toList).length c2, .bool (negU a.data.toList)] 45 (0, 0)) := by
    have := World.alloc_heap_new (w2.alloc (.cells #[.slice A (limbsU a.data.toList).length c, .bool (negU a.data.toList)] 45)) (.cells #[.slice A2 (limbsU a.data.toList).length c2, .bool (negU a.data.toList)] 45)
    simpa using this
  generalize ((w2.alloc (.cells #[.slice A (limbsU a.data.toList).length c, .bool (negU a.data.toList)] 45)).alloc (.cells #[.slice A2 (limbsU a.data.toList).length c2, .bool (negU a.data.toList)] 45)) = W0 at *
  have HX := Aside0.mk (blk_drew hx)
  have HY := Aside0.mk (blk_drew hy)
  have HVA := Aside0.mk (Kd.V_drew (Kd.V_below (Kd.V_below hV hB2) hb0))
  have HVB := Aside0.mk (Kd.V_drew (Kd.V_below hV2 hb0))
  have HBW := Aside0.mk (below_drew1 ((HB.out.trans (hB.mono HB.out.size)).trans ((hB2.trans (hb0.mono hB2.size)).mono (Nat.le_trans HB.out.size hB.size))))
  have hl1 := (Kd.V_reads' hV).2.1
  have hl2 := (Kd.V_reads' hV2).2.1
  clear hx hy hV hV2 hb0 hB hB2
  go_region_held3 (fun w' => w'.cell? ⟨w2.heap.size, 0, none⟩ = some (.slice A (limbsU a.data.toList).length c) ∧ w'.cell? ⟨w2.heap.size, 1, none⟩ = some (.bool (negU a.data.toList)) ∧ w'.cell? ⟨w2.heap.size + 1, 0, none⟩ = some (.slice A2 (limbsU a.data.toList).length c2) ∧ w'.cell? ⟨w2.heap.size + 1, 1, none⟩ = some (.bool (negU a.data.toList))) (first | with_reducible exact S4 HX.out HY.out | with_reducible exact S4 HX3.out HY3.out)
    (first
    | (go_at_call 40; refine (number_size.calls ks A c _ A2 c2 _ 0 _ (Kd.V_reads' HVA.out).2.2 hl1 (Kd.V_reads' HVB.out).2.2 hl2 HK.out).mono ?_; rintro e w3 ⟨rfl, hB3⟩
       have HB3 := Aside0.mk (HBW.out.trans (hB3.mono HBW.out.size))
       have HX3 := Aside0.mk (blk_below HX.out hB3)
       have HY3 := Aside0.mk (blk_below HY.out hB3)
       clear hB3)
    | (go_at_call 39; refine (sign_calls _ _).mono ?_; rintro e w4 ⟨rfl, rfl⟩))
  all_goals go_wp2
  go_ret2
  exact ⟨rfl, HB3.out⟩
end Go.Proofs.YtlnneellihkdkaaDoor.D
namespace Go.Proofs.YtlnneellihkdkaaDoor.D
open Go Go.Proofs Go.RowKit Go.Shelf Go.Proofs.YtlnneellihkdkaaDoorW.PrintWords Go.Proofs.YtlnneellihkdkaaDoorW.PrintLast Go.Proofs.YtlnneellihkdkaaDoorW.PrintMore
set_option linter.unusedVariables false
set_option linter.unusedSimpArgs false

abbrev ParseIs (a : ByteArray) (la : List Int) (na : Bool) : Prop := ∀ W : World, Calls Tryd.prog 33 #[.string a] W fun e w' => ∃ A c, e = .returned (.agg #[.slice A la.length c, .bool na]) ∧ Kd.V (Kd.int .u64) 65 w' W.heap.size (fun k => W.heap.size ≤ k) (.slice A la.length c) la ∧ Below W.heap.size W w'
abbrev SizeIs (la lb : List Int) (s : Int) : Prop := ∀ (A A2 : Option Addr) (c c2 : Nat) (W : World), Kd.C (Kd.int .u64) W A la.length la → la.length ≤ c → Kd.C (Kd.int .u64) W A2 lb.length lb → lb.length ≤ c2 →
    Calls Tryd.prog 40 #[.slice A la.length c, .slice A2 lb.length c2] W fun e w' => e = .returned (.int .i64 s) ∧ Below W.heap.size W w'

set_option maxRecDepth 100000 in
set_option maxHeartbeats 4000000 in
theorem cmp_same (a b : ByteArray) (la lb : List Int) (na nb : Bool) (s t v : Int) (hnn : (na == nb) = true) (hsg : sgnI na = t) (hmul : IntKind.i64.wrap (s * t) = v)
    (CA : Aside0 (CanIs a true)) (CB : Aside0 (CanIs b true)) (PA : Aside0 (ParseIs a la na)) (PB : Aside0 (ParseIs b lb nb)) (SZ : Aside0 (SizeIs la lb s)) (w : World) :
    Calls Tryd.prog 21 #[.string a, .string b] w fun e w' => e = .returned (.tuple #[.int .i64 v, .int .i64 0]) ∧ Below w.heap.size w w' := by
  have HSG := Aside0.mk (fun W => hsg ▸ sign_calls na W)
  clear hsg
  go_enter Tryd.func21, Tryd.ntmps21
  have HB := Aside0.mk (Below.refl w.heap.size w)
  go_wp2_with (first
    | (go_at_call 12; with_reducible refine (CA.out _).mono ?_; rintro e w1 ⟨rfl, hd1⟩; have n_ := Aside0.mk (HB.out.trans (hd1.mono HB.out.size)); clear HB; have HB := n_; clear n_ hd1)
    | (go_at_call 12; with_reducible refine (CB.out _).mono ?_; rintro e w1 ⟨rfl, hd1⟩; have n_ := Aside0.mk (HB.out.trans (hd1.mono HB.out.size)); clear HB; have HB := n_; clear n_ hd1))
  go_at_call 33
  refine (PA.out _).mono ?_
  rintro e w1' ⟨A, c, rfl, hV, hB⟩
  go_wp2_with fail
  go_at_call 33
  refine (PB.out _).mono ?_
  rintro e w2 ⟨A2, c2, rfl, hV2, hB2⟩
  have hb0 := two_new w2 (.cells #[.slice A la.length c, .bool na] 45) (.cells #[.slice A2 lb.length c2, .bool nb] 45)
  have hx : ((w2.alloc (.cells #[.slice A la.length c, .bool na] 45)).alloc (.cells #[.slice A2 lb.length c2, .bool nb] 45)).heap[w2.heap.size]? = some (.cells #[.slice A la.length c, .bool na] 45 (0, 0)) := blk_alloc (World.alloc_heap_new w2 _) _
  have hy : ((w2.alloc (.cells #[.slice A la.length c, .bool na] 45)).alloc (.cells #[.slice A2 lb.length c2, .bool nb] 45)).heap[w2.heap.size + 1]? = some (.cells #[.slice A2 lb.length c2, .bool nb] 45 (0, 0)) := by
    have := World.alloc_heap_new (w2.alloc (.cells #[.slice A la.length c, .bool na] 45)) (.cells #[.slice A2 lb.length c2, .bool nb] 45)
    simpa using this
  go_wp2_with fail
  generalize ((w2.alloc (.cells #[.slice A la.length c, .bool na] 45)).alloc (.cells #[.slice A2 lb.length c2, .bool nb] 45)) = W0 at *
  have HX := Aside0.mk (blk_drew hx)
  have HY := Aside0.mk (blk_drew hy)
  have HVA := Aside0.mk (Kd.V_drew (Kd.V_below (Kd.V_below hV hB2) hb0))
  have HVB := Aside0.mk (Kd.V_drew (Kd.V_below hV2 hb0))
  have HBW := Aside0.mk (below_drew1 ((HB.out.trans (hB.mono HB.out.size)).trans ((hB2.trans (hb0.mono hB2.size)).mono (Nat.le_trans HB.out.size hB.size))))
  have hl1 := (Kd.V_reads' hV).2.1
  have hl2 := (Kd.V_reads' hV2).2.1
  clear hx hy hV hV2 hb0 hB hB2
  go_region_held3 (fun w' => w'.cell? ⟨w2.heap.size, 0, none⟩ = some (.slice A la.length c) ∧ w'.cell? ⟨w2.heap.size, 1, none⟩ = some (.bool na) ∧ w'.cell? ⟨w2.heap.size + 1, 0, none⟩ = some (.slice A2 lb.length c2) ∧ w'.cell? ⟨w2.heap.size + 1, 1, none⟩ = some (.bool nb)) (first | with_reducible exact S4 HX.out HY.out | with_reducible exact S4 HX3.out HY3.out)
    (first
    | (go_at_call 40; refine (SZ.out A A2 c c2 _ (Kd.V_reads' HVA.out).2.2 hl1 (Kd.V_reads' HVB.out).2.2 hl2).mono ?_; rintro e w3 ⟨rfl, hB3⟩
       have HB3 := Aside0.mk (HBW.out.trans (hB3.mono HBW.out.size))
       have HX3 := Aside0.mk (blk_below HX.out hB3)
       have HY3 := Aside0.mk (blk_below HY.out hB3)
       clear hB3)
    | (go_at_call 39; refine (HSG.out _).mono ?_; rintro e w4 ⟨rfl, rfl⟩))
  all_goals go_wp2
  go_ret2
  exact ⟨rfl, HB3.out⟩

set_option maxRecDepth 100000 in
set_option maxHeartbeats 4000000 in
theorem cmp_diff (a b : ByteArray) (la lb : List Int) (na nb : Bool) (s t v : Int) (hnn : (na == nb) = false) (hsg : sgnI na = t) (hmul : IntKind.i64.wrap (s * t) = v)
    (CA : Aside0 (CanIs a true)) (CB : Aside0 (CanIs b true)) (PA : Aside0 (ParseIs a la na)) (PB : Aside0 (ParseIs b lb nb)) (SZ : Aside0 (SizeIs la lb s)) (w : World) :
    Calls Tryd.prog 21 #[.string a, .string b] w fun e w' => e = .returned (.tuple #[.int .i64 t, .int .i64 0]) ∧ Below w.heap.size w w' := by
  have HSG := Aside0.mk (fun W => hsg ▸ sign_calls na W)
  clear hsg
  go_enter Tryd.func21, Tryd.ntmps21
  have HB := Aside0.mk (Below.refl w.heap.size w)
  go_wp2_with (first
    | (go_at_call 12; with_reducible refine (CA.out _).mono ?_; rintro e w1 ⟨rfl, hd1⟩; have n_ := Aside0.mk (HB.out.trans (hd1.mono HB.out.size)); clear HB; have HB := n_; clear n_ hd1)
    | (go_at_call 12; with_reducible refine (CB.out _).mono ?_; rintro e w1 ⟨rfl, hd1⟩; have n_ := Aside0.mk (HB.out.trans (hd1.mono HB.out.size)); clear HB; have HB := n_; clear n_ hd1))
  go_at_call 33
  refine (PA.out _).mono ?_
  rintro e w1' ⟨A, c, rfl, hV, hB⟩
  go_wp2_with fail
  go_at_call 33
  refine (PB.out _).mono ?_
  rintro e w2 ⟨A2, c2, rfl, hV2, hB2⟩
  have hb0 := two_new w2 (.cells #[.slice A la.length c, .bool na] 45) (.cells #[.slice A2 lb.length c2, .bool nb] 45)
  have hx : ((w2.alloc (.cells #[.slice A la.length c, .bool na] 45)).alloc (.cells #[.slice A2 lb.length c2, .bool nb] 45)).heap[w2.heap.size]? = some (.cells #[.slice A la.length c, .bool na] 45 (0, 0)) := blk_alloc (World.alloc_heap_new w2 _) _
  have hy : ((w2.alloc (.cells #[.slice A la.length c, .bool na] 45)).alloc (.cells #[.slice A2 lb.length c2, .bool nb] 45)).heap[w2.heap.size + 1]? = some (.cells #[.slice A2 lb.length c2, .bool nb] 45 (0, 0)) := by
    have := World.alloc_heap_new (w2.alloc (.cells #[.slice A la.length c, .bool na] 45)) (.cells #[.slice A2 lb.length c2, .bool nb] 45)
    simpa using this
  have hbel := (HB.out.trans (hB.mono HB.out.size)).trans ((hB2.trans (hb0.mono hB2.size)).mono (Nat.le_trans HB.out.size hB.size))
  have c61 := blk_cell hx 1
  have c71 := blk_cell hy 1
  simp only [List.getElem?_toArray, List.getElem?_cons_zero, List.getElem?_cons_succ] at c61 c71
  clear hx hy hV hV2
  go_wp2_with (go_at_call 39; refine (HSG.out _).mono ?_; rintro e w4 ⟨rfl, rfl⟩)
  go_ret2
  exact ⟨rfl, hbel⟩

set_option maxRecDepth 100000 in
set_option maxHeartbeats 4000000 in
theorem cmp_bad (a b : ByteArray) (ca cb : Bool) (hc : (ca && cb) = false) (CA : Aside0 (CanIs a ca)) (CB : Aside0 (CanIs b cb)) (w : World) :
    Calls Tryd.prog 21 #[.string a, .string b] w fun e w' => e = .returned (.tuple #[.int .i64 0, .int .i64 90]) ∧ Below w.heap.size w w' := by
  have HB := Aside0.mk (Below.refl w.heap.size w)
  cases ca <;> cases cb
  all_goals try (exact absurd hc (by decide))
  all_goals go_enter Tryd.func21, Tryd.ntmps21
  all_goals go_wp2_with (first
    | (go_at_call 12; with_reducible refine (CA.out _).mono ?_; rintro e w1 ⟨rfl, hd1⟩; have n_ := Aside0.mk (HB.out.trans (hd1.mono HB.out.size)); clear HB; have HB := n_; clear n_ hd1)
    | (go_at_call 12; with_reducible refine (CB.out _).mono ?_; rintro e w1 ⟨rfl, hd1⟩; have n_ := Aside0.mk (HB.out.trans (hd1.mono HB.out.size)); clear HB; have HB := n_; clear n_ hd1))
  all_goals go_ret2
  all_goals exact ⟨rfl, HB.out⟩

def cmpO (a b : ByteArray) : Int × Int := if N.canU a.data.toList = true ∧ N.canU b.data.toList = true then (cmpI (N.valU a.data.toList) (N.valU b.data.toList), 0) else (0, 90)
theorem cmpI_cases (x y : Int) : cmpI x y = -1 ∨ cmpI x y = 0 ∨ cmpI x y = 1 := by unfold cmpI; split <;> (try split) <;> simp
theorem compare_calls (a b : ByteArray) (ha : a.size ≤ 9223372036854775807) (hb : b.size ≤ 9223372036854775807) (w : World) :
    Calls Tryd.prog 21 #[.string a, .string b] w fun e w' => e = .returned (.tuple #[.int .i64 (cmpO a b).1, .int .i64 (cmpO a b).2]) ∧ Below w.heap.size w w' := by
  by_cases hc : N.canU a.data.toList = true ∧ N.canU b.data.toList = true
  · obtain ⟨hca, hcb⟩ := hc
    rw [show cmpO a b = (cmpI (N.valU a.data.toList) (N.valU b.data.toList), 0) from if_pos ⟨hca, hcb⟩]
    have CA := canIs a ha
    have CB := canIs b hb
    rw [hca] at CA
    rw [hcb] at CB
    obtain ⟨la1, la2, la3, la4⟩ := limbs_val hca
    obtain ⟨lb1, lb2, lb3, lb4⟩ := limbs_val hcb
    obtain ⟨ks, hks⟩ := Ev.rounds (size_prog_ev (limbsU a.data.toList) (limbsU b.data.toList) la2 lb2 (by omega) (by omega))
    have SZ : SizeIs (limbsU a.data.toList) (limbsU b.data.toList) (cmpI (vB G (limbsU a.data.toList)) (vB G (limbsU b.data.toList))) := fun A A2 c c2 W h1 h2 h3 h4 => number_size.calls ks A c _ A2 c2 _ _ W h1 h2 h3 h4 hks
    have sa := sv_val hca
    have sb := sv_val hcb
    have va := val_neg hca
    have vb := val_neg hcb
    by_cases hn : (negU a.data.toList == negU b.data.toList) = true
    · have hs := cmpI_cases (vB G (limbsU a.data.toList)) (vB G (limbsU b.data.toList))
      have hw : IntKind.i64.wrap (cmpI (vB G (limbsU a.data.toList)) (vB G (limbsU b.data.toList)) * sgnI (negU a.data.toList)) = cmpI (N.valU a.data.toList) (N.valU b.data.toList) := by
        have e1 : cmpI (vB G (limbsU a.data.toList)) (vB G (limbsU b.data.toList)) * sgnI (negU a.data.toList) = cmpI (N.valU a.data.toList) (N.valU b.data.toList) := by
          rw [← sa, ← sb]
          have hn' : negU a.data.toList = negU b.data.toList := by simpa using hn
          rw [← hn']
          unfold sv sgnI
          cases negU a.data.toList
          · simp
          · simp only [if_true]
            rw [cmpI_neg]
            unfold cmpI
            split <;> split <;> (try split) <;> (try split) <;> omega
        rw [e1]
        rcases cmpI_cases (N.valU a.data.toList) (N.valU b.data.toList) with h | h | h <;> rw [h] <;> rfl
      exact cmp_same a b _ _ _ _ _ _ _ hn rfl hw ⟨CA⟩ ⟨CB⟩ ⟨parse_ok a ha hca⟩ ⟨parse_ok b hb hcb⟩ ⟨SZ⟩ w
    · have hn' : (negU a.data.toList == negU b.data.toList) = false := by simpa using hn
      have ht : sgnI (negU a.data.toList) = cmpI (N.valU a.data.toList) (N.valU b.data.toList) := by
        cases h1 : negU a.data.toList <;> cases h2 : negU b.data.toList
        · rw [h1, h2] at hn'; cases hn'
        · have e1 := va.2 h1
          have e2 := vb.1 h2
          rw [e1, e2.1]
          unfold sgnI cmpI
          rw [if_neg (by decide), if_neg (by omega), if_neg (by omega)]
        · have e1 := va.1 h1
          have e2 := vb.2 h2
          rw [e1.1, e2]
          unfold sgnI cmpI
          rw [if_pos rfl, if_pos (by omega)]
        · rw [h1, h2] at hn'; cases hn'
      exact cmp_diff a b _ _ _ _ _ _ _ hn' ht rfl ⟨CA⟩ ⟨CB⟩ ⟨parse_ok a ha hca⟩ ⟨parse_ok b hb hcb⟩ ⟨SZ⟩ w
  · rw [show cmpO a b = (0, 90) from if_neg hc]
    have h : (N.canU a.data.toList && N.canU b.data.toList) = false := by
      cases h1 : N.canU a.data.toList <;> cases h2 : N.canU b.data.toList <;> simp_all
    exact cmp_bad a b _ _ h ⟨canIs a ha⟩ ⟨canIs b hb⟩ w
end Go.Proofs.YtlnneellihkdkaaDoor.D
