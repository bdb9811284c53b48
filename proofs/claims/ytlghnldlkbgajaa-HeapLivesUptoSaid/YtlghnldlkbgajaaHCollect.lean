
/- heap: Collect. -/
import Derived.Test.YtlghnldlkbgajaaHCollT
import Derived.Test.YtlghnldlkbgajaaHCollF
import Derived.Test.YtlghnldlkbgajaaHGraph
namespace Go.Proofs.Ytlghnldlkbgajaa.S
open Go.RowKit Go.Proofs.YtlghnldlkbgajaaW.PrintWords Go.Proofs.YtlghnldlkbgajaaW.PrintLast Go.Proofs.YtlghnldlkbgajaaW.PrintMore
set_option linter.unusedVariables false
set_option linter.unusedSimpArgs false

/-- The bounds of a heap, with room for what a call adds. -/
structure Sm (L : List OW) (h : HH) : Prop where
  len : L.length ≤ 1000000
  nx : 0 < h.nx ∧ h.nx % 2 = 0 ∧ h.nx ≤ 900000000000
  fs : ∀ o ∈ L, o.o.fs.length ≤ 1000000
  tx : ∀ o ∈ L, o.o.text.size ≤ 1000000
  roots : h.roots.length ≤ 1000000
  mm : 0 ≤ h.minor ∧ h.minor ≤ 900000000000 ∧ 0 ≤ h.major ∧ h.major ≤ 900000000000
theorem Sm.bds {L : List OW} {h : HH} (s : Sm L h) : Bds L h := ⟨s.len, ⟨s.nx.1, s.nx.2.1, by have := s.nx.2.2; have := s.len; omega⟩, s.fs, s.tx, s.roots, by have := s.mm; omega⟩
theorem Sm.coll {L : List OW} {h : HH} (s : Sm L h) (hp : L.Pairwise fun x y => x.k ≠ y.k) (all : Bool) : Bds (collL L h all) (collHH L h all) := by
  have hq := (collMv_ok L h all).len
  have hn := (collMv_mv L h all).nx
  have hl := s.len
  have hx := s.nx
  have hm := s.mm
  refine ⟨by rw [collL_len]; omega, ?_, fun o ho => ?_, fun o ho => ?_, ?_, ?_⟩
  · rw [collL_len]
    show 0 < (collMv L h all).nx ∧ (collMv L h all).nx % 2 = 0 ∧ (collMv L h all).nx + 2 * ((collMv L h all).q.length : Int) ≤ 1000000000000
    rw [hn]; omega
  · obtain ⟨o', ho', -, rfl⟩ := collL_mem hp ho
    show (o'.o.done _).fs.length ≤ _
    rw [show (o'.o.done (collMv L h all).tt).fs.length = o'.o.fs.length from by simp [PO.done]]
    exact s.fs o' ho'
  · obtain ⟨o', ho', -, rfl⟩ := collL_mem hp ho
    exact s.tx o' ho'
  · show (h.roots.map _).length ≤ _
    rw [List.length_map]; exact s.roots
  · show 0 ≤ (if all then h.minor else h.minor + 1) ∧ (if all then h.minor else h.minor + 1) ≤ _ ∧ 0 ≤ (if all then h.major + 1 else h.major) ∧ (if all then h.major + 1 else h.major) ≤ _
    cases all <;> simp <;> omega
/-- A collection. -/
theorem collect_calls {w : World} {g b B : Nat} {R : Option Addr} {rc : Nat} {L : List OW} {h : HH} (H : HW w g b B R rc L h) (hbd : Bds L h) (all : Bool) :
    Calls Try.prog 37 #[ptr g, .bool all] w fun e w' => e = .returned (.tuple #[]) ∧ ∃ kb, HW w' g kb B R rc (collL L h all) (collHH L h all) ∧ w.heap.size ≤ kb ∧ FrP (Foot g b R L) w w' := by
  cases all
  · exact collect_false H hbd
  · exact collect_true H hbd
/-- Collect, plainly: the error, the objects, the rest. -/
def ColMid (L : List OW) (h : HH) (all : Bool) : List OW × HH :=
  if all = false ∧ (collHH L h all).room1 < (collHH L h all).has1 then (collL (collL L h all) (collHH L h all) true, collHH (collL L h all) (collHH L h all) true) else (collL L h all, collHH L h all)
def ColF (L : List OW) (h : HH) (all : Bool) : Int × List OW × HH :=
  if h.spent then (140, L, h) else
  if (ColMid L h all).2.room1 < (ColMid L h all).2.has1 then (140, (ColMid L h all).1, { (ColMid L h all).2 with spent := true }) else (0, (ColMid L h all).1, (ColMid L h all).2)
set_option maxRecDepth 100000 in
theorem made_any {w : World} {g b B : Nat} {R : Option Addr} {rc : Nat} {L : List OW} {h : HH} (H : HW w g b B R rc L h) : Calls Try.prog 31 #[ptr g] w fun e w' => e = .returned (.bool true) ∧ w' = w := by
  have c0 := H.c0
  have hmn : (binOp .neq 63 (.map (some b)) (.map none)).run Try.prog w = .ok (.bool true) w := run_neq_map_nil w 63 28 75 (some b) Try.underlying63
  unfold ptr
  clear H
  go_enter Try.func31, Try.ntmps31
  go_wp2
  go_returns
  exact ⟨rfl, rfl⟩
/-- What a call leaves of a heap: the heap, turned, and all else. -/
def After (w w' : World) (g b B : Nat) (R : Option Addr) (L : List OW) (rc : Nat) (L' : List OW) (h' : HH) : Prop :=
  ∃ b', HW w' g b' B R rc L' h' ∧ FrP (Foot g b R L) w w' ∧ ∀ k, Foot g b' R L' k → Foot g b R L k ∨ w.heap.size ≤ k
theorem After.coll {w w' : World} {g b kb B : Nat} {R : Option Addr} {rc : Nat} {L : List OW} {h : HH} {all : Bool} (H : HW w g b B R rc L h) (H' : HW w' g kb B R rc (collL L h all) (collHH L h all)) (hk : w.heap.size ≤ kb) (hf : FrP (Foot g b R L) w w') : After w w' g b B R L rc (collL L h all) (collHH L h all) :=
  ⟨kb, H', hf, fun k hkk => (coll_foot H.apart hkk).imp id (fun e => by omega)⟩
theorem FrP.grow {F F' : Nat → Prop} {a b c : World} (h : FrP F a b) (k : FrP F' b c) (hF : ∀ i, F' i → F i ∨ a.heap.size ≤ i) : FrP F a c := h.then (k.mono (fun i _ hi => hF i hi))
set_option maxRecDepth 100000 in
set_option maxHeartbeats 2000000 in
/-- What follows the collections: whether there is room. -/
theorem Collect_spent {w : World} {g b B : Nat} {R : Option Addr} {rc : Nat} {L : List OW} {h : HH} (H : HW w g b B R rc L h) (hsp : h.spent = true) (all : Bool) :
    Calls Try.prog 17 #[ptr g, .bool all] w fun e w' => e = .returned (.int .i64 140) ∧ w' = w := by
  have c9 : w.cell? ⟨g, 9, none⟩ = some (.bool true) := by rw [← hsp]; exact H.c9
  have HM := Aside0.mk (made_any H)
  clear H
  unfold ptr
  unfold ptr at HM
  go_enter Try.func17, Try.ntmps17
  go_wp2_with fail
  refine HM.out.mono ?_
  rintro e w1 ⟨rfl, rfl⟩
  go_wp2_with fail
  go_returns
  exact ⟨rfl, rfl⟩
set_option maxRecDepth 100000 in
set_option maxHeartbeats 2000000 in
theorem Collect_true {w : World} {g b B : Nat} {R : Option Addr} {rc : Nat} {L : List OW} {h : HH} (H : HW w g b B R rc L h) (hs : Sm L h) (hsp : h.spent = false) :
    Calls Try.prog 17 #[ptr g, .bool true] w fun e w' => e = .returned (.int .i64 (ColF L h true).1) ∧ After w w' g b B R L rc (ColF L h true).2.1 (ColF L h true).2.2 := by
  have c9 : w.cell? ⟨g, 9, none⟩ = some (.bool false) := by rw [← hsp]; exact H.c9
  have HM := Aside0.mk (made_any H)
  have HH0 := Aside0.mk H
  have HB := Aside0.mk hs.bds
  have HB1 := Aside0.mk (hs.coll H.apart true)
  obtain ⟨z, hz⟩ : ∃ z, z = ColF L h true := ⟨_, rfl⟩
  have hz2 : z = if (ColMid L h true).2.room1 < (ColMid L h true).2.has1 then (140, (ColMid L h true).1, { (ColMid L h true).2 with spent := true }) else (0, (ColMid L h true).1, (ColMid L h true).2) := by rw [hz]; unfold ColF; rw [if_neg (by simp [hsp])]
  rw [← hz]
  have HZ := Aside0.mk hz2
  clear H hsp hs hz hz2
  unfold ptr
  unfold ptr at HM
  go_enter Try.func17, Try.ntmps17
  go_wp2_with fail
  refine HM.out.mono ?_
  rintro e w1 ⟨rfl, rfl⟩
  go_wp2_with fail
  refine (collect_calls HH0.out HB.out true).mono ?_
  rintro e w2 ⟨rfl, kb, hk, hkl, hfr⟩
  have HAp := Aside0.mk HH0.out.apart
  have HF2 := Aside0.mk hfr
  have HSub := Aside0.mk (show ∀ k, Foot g kb R (collL L h true) k → Foot g b R L k ∨ w1.heap.size ≤ k from fun k hkk => (coll_foot HAp.out hkk).imp id (fun e => by omega))
  clear HM c9 HB hkl hfr HH0
  have hmid : ColMid L h true = (collL L h true, collHH L h true) := by unfold ColMid; rw [if_neg (by simp)]
  rw [hmid] at HZ
  obtain ⟨h1, hh1⟩ : ∃ h1, h1 = collHH L h true := ⟨_, rfl⟩
  rw [← hh1] at HZ hk HB1
  have HK := Aside0.mk hk
  have c6 : w2.drew.cell? ⟨g, 6, none⟩ = some (.int .i64 h1.has1) := hk.c6
  have c4 : w2.drew.cell? ⟨g, 4, none⟩ = some (.int .i64 h1.room1) := hk.c4
  clear hh1 hmid hk
  go_wp2_with fail
  refine start_ (n := 15) (S := (fun w' => w'.cell? ⟨g, 6, none⟩ = some (.int .i64 h1.has1) ∧ w'.cell? ⟨g, 4, none⟩ = some (.int .i64 h1.room1))) (ds := []) #[false, false, false, false, false, false, false, false, false, false, false, false, false, false, false] (by kernel_rfl) rfl rfl ⟨c6, c4⟩ (fun hHeld => ?_)
  refine take_ (i := 0) (N := some 15) (v := ?_) (a' := ?_) #[true, false, false, false, false, false, false, false, false, false, false, false, false, false, false] rfl rfl (by kernel_rfl) (fun _ _ _ h => h) (Or.inl ⟨by rfl, ?_⟩) hHeld ?_ ?_
  rotate_left
  · rintro w' ⟨s0, s1⟩
    go_simp
    with_reducible rfl
  rotate_left
  · simp only [Act.put, List.setIfInBounds_toArray, List.set_cons_zero, List.set_cons_succ, i64_w, i32_w]
    rfl
  refine take_ (i := 1) (N := some 16) (v := ?_) (a' := ?_) #[true, true, false, false, false, false, false, false, false, false, false, false, false, false, false] rfl rfl (by kernel_rfl) (fun _ _ _ h => h) (Or.inl ⟨by rfl, ?_⟩) hHeld ?_ ?_
  rotate_left
  · rintro w' ⟨s0, s1⟩
    go_simp
    with_reducible rfl
  rotate_left
  · simp only [Act.put, List.setIfInBounds_toArray, List.set_cons_zero, List.set_cons_succ, i64_w, i32_w]
    rfl
  refine take_ (i := 2) (N := some 17) (v := ?_) (a' := ?_) #[true, true, true, false, false, false, false, false, false, false, false, false, false, false, false] rfl rfl (by kernel_rfl) (fun _ _ _ h => h) (Or.inl ⟨by rfl, ?_⟩) hHeld ?_ ?_
  rotate_left
  · rintro w' ⟨s0, s1⟩
    go_simp
    with_reducible rfl
  rotate_left
  · simp only [Act.put, List.setIfInBounds_toArray, List.set_cons_zero, List.set_cons_succ, i64_w, i32_w]
    rfl
  refine take_ (i := 3) (N := some 18) (v := undef) (a' := ?_) #[true, true, true, true, false, false, false, false, false, false, false, false, false, false, false] rfl rfl (by kernel_rfl) (fun _ _ _ h => h) (Or.inr ⟨by rfl, rfl⟩) hHeld ?_ ?_
  rotate_left
  · simp only [Act.put, List.setIfInBounds_toArray, List.set_cons_zero, List.set_cons_succ, i64_w, i32_w]
    rfl
  refine take_ (i := 4) (N := some 19) (v := undef) (a' := ?_) #[true, true, true, true, true, false, false, false, false, false, false, false, false, false, false] rfl rfl (by kernel_rfl) (fun _ _ _ h => h) (Or.inr ⟨by rfl, rfl⟩) hHeld ?_ ?_
  rotate_left
  · simp only [Act.put, List.setIfInBounds_toArray, List.set_cons_zero, List.set_cons_succ, i64_w, i32_w]
    rfl
  refine take_ (i := 5) (N := some 20) (v := undef) (a' := ?_) #[true, true, true, true, true, true, false, false, false, false, false, false, false, false, false] rfl rfl (by kernel_rfl) (fun _ _ _ h => h) (Or.inr ⟨by rfl, rfl⟩) hHeld ?_ ?_
  rotate_left
  · simp only [Act.put, List.setIfInBounds_toArray, List.set_cons_zero, List.set_cons_succ, i64_w, i32_w]
    rfl
  refine take_ (i := 6) (N := some 21) (v := undef) (a' := ?_) #[true, true, true, true, true, true, true, false, false, false, false, false, false, false, false] rfl rfl (by kernel_rfl) (fun _ _ _ h => h) (Or.inr ⟨by rfl, rfl⟩) hHeld ?_ ?_
  rotate_left
  · simp only [Act.put, List.setIfInBounds_toArray, List.set_cons_zero, List.set_cons_succ, i64_w, i32_w]
    rfl
  refine take_ (i := 7) (N := some 22) (v := undef) (a' := ?_) #[true, true, true, true, true, true, true, true, false, false, false, false, false, false, false] rfl rfl (by kernel_rfl) (fun _ _ _ h => h) (Or.inr ⟨by rfl, rfl⟩) hHeld ?_ ?_
  rotate_left
  · simp only [Act.put, List.setIfInBounds_toArray, List.set_cons_zero, List.set_cons_succ, i64_w, i32_w]
    rfl
  refine take_ (i := 8) (N := some 23) (v := undef) (a' := ?_) #[true, true, true, true, true, true, true, true, true, false, false, false, false, false, false] rfl rfl (by kernel_rfl) (fun _ _ _ h => h) (Or.inr ⟨by rfl, rfl⟩) hHeld ?_ ?_
  rotate_left
  · simp only [Act.put, List.setIfInBounds_toArray, List.set_cons_zero, List.set_cons_succ, i64_w, i32_w]
    rfl
  refine take_ (i := 9) (N := some 24) (v := undef) (a' := ?_) #[true, true, true, true, true, true, true, true, true, true, false, false, false, false, false] rfl rfl (by kernel_rfl) (fun _ _ _ h => h) (Or.inr ⟨by rfl, rfl⟩) hHeld ?_ ?_
  rotate_left
  · simp only [Act.put, List.setIfInBounds_toArray, List.set_cons_zero, List.set_cons_succ, i64_w, i32_w]
    rfl
  refine take_ (i := 10) (N := some 25) (v := undef) (a' := ?_) #[true, true, true, true, true, true, true, true, true, true, true, false, false, false, false] rfl rfl (by kernel_rfl) (fun _ _ _ h => h) (Or.inr ⟨by rfl, rfl⟩) hHeld ?_ ?_
  rotate_left
  · simp only [Act.put, List.setIfInBounds_toArray, List.set_cons_zero, List.set_cons_succ, i64_w, i32_w]
    rfl
  refine take_ (i := 11) (N := some 26) (v := undef) (a' := ?_) #[true, true, true, true, true, true, true, true, true, true, true, true, false, false, false] rfl rfl (by kernel_rfl) (fun _ _ _ h => h) (Or.inr ⟨by rfl, rfl⟩) hHeld ?_ ?_
  rotate_left
  · simp only [Act.put, List.setIfInBounds_toArray, List.set_cons_zero, List.set_cons_succ, i64_w, i32_w]
    rfl
  refine take_ (i := 12) (N := some 27) (v := undef) (a' := ?_) #[true, true, true, true, true, true, true, true, true, true, true, true, true, false, false] rfl rfl (by kernel_rfl) (fun _ _ _ h => h) (Or.inr ⟨by rfl, rfl⟩) hHeld ?_ ?_
  rotate_left
  · simp only [Act.put, List.setIfInBounds_toArray, List.set_cons_zero, List.set_cons_succ, i64_w, i32_w]
    rfl
  refine take_ (i := 13) (N := some 28) (v := undef) (a' := ?_) #[true, true, true, true, true, true, true, true, true, true, true, true, true, true, false] rfl rfl (by kernel_rfl) (fun _ _ _ h => h) (Or.inr ⟨by rfl, rfl⟩) hHeld ?_ ?_
  rotate_left
  · simp only [Act.put, List.setIfInBounds_toArray, List.set_cons_zero, List.set_cons_succ, i64_w, i32_w]
    rfl
  refine take_ (i := 14) (N := some 29) (v := ?_) (a' := ?_) #[true, true, true, true, true, true, true, true, true, true, true, true, true, true, true] rfl rfl (by kernel_rfl) (fun _ _ _ h => h) (Or.inl ⟨by rfl, ?_⟩) hHeld ?_ ?_
  rotate_left
  · rintro w' ⟨s0, s1⟩
    go_simp
    with_reducible rfl
  rotate_left
  · simp only [Act.put, List.setIfInBounds_toArray, List.set_cons_zero, List.set_cons_succ, i64_w, i32_w]
    rfl
  refine done_ (by kernel_rfl) ?_
  have H3 := Aside0.mk (HK.out.fr0 (Fr.drew [] w2))
  have HF3 := Aside0.mk (HF2.out.trans (FrP.new ((Below.refl _ _).drew) _))
  have HSub3 := HSub
  clear HK HF2 c6 c4
  generalize w2.drew = w3 at *
  obtain ⟨hm, hhm⟩ : ∃ hm, hm = h1 := ⟨_, rfl⟩
  obtain ⟨b3, hb3⟩ : ∃ b3, b3 = kb := ⟨_, rfl⟩
  subst hhm hb3
  have c6 := H3.out.c6
  have c4 := H3.out.c4
  have f9 := H3.out.fz 9
  have c9 := H3.out.c9
  go_wp2_with fail
  go_region_held3 (fun w' => w'.cell? ⟨g, 6, none⟩ = some (.int .i64 hm.has1) ∧ w'.cell? ⟨g, 4, none⟩ = some (.int .i64 hm.room1)) (first | exact ⟨c6, c4⟩) (fail)
  have H4 := Aside0.mk (H3.out.fr0 (Fr.drew [] w3))
  have HF4 := Aside0.mk (HF3.out.trans (FrP.new ((Below.refl _ _).drew) _))
  have c9 := H4.out.c9
  have f9 := H4.out.fz 9
  clear H3 HF3 c6 c4
  generalize w3.drew = w4 at *
  by_cases hr : hm.room1 < hm.has1
  · have hrb : decide (hm.room1 < hm.has1) = true := decide_eq_true hr
    rw [if_pos hr] at HZ
    have hzz := HZ.out
    subst hzz
    go_wp2_with fail
    go_returns
    have f1 := Fr.set w4 g 9 (.bool true)
    exact ⟨rfl, b3, H4.out.turned (h' := { hm with spent := true }) f1 (blk_put H4.out.hp 9 _ rfl) rfl (Int.le_refl _), HF4.out.trans ((FrP.ofFr f1).mono (fun k _ hk => .inl (by simpa using hk))), HSub3.out⟩
  · have hrb : decide (hm.room1 < hm.has1) = false := decide_eq_false hr
    rw [if_neg hr] at HZ
    have hzz := HZ.out
    subst hzz
    go_wp2_with fail
    go_returns
    exact ⟨rfl, b3, H4.out, HF4.out, HSub3.out⟩
set_option maxRecDepth 100000 in
set_option maxHeartbeats 2000000 in
theorem Collect_false {w : World} {g b B : Nat} {R : Option Addr} {rc : Nat} {L : List OW} {h : HH} (H : HW w g b B R rc L h) (hs : Sm L h) (hsp : h.spent = false) :
    Calls Try.prog 17 #[ptr g, .bool false] w fun e w' => e = .returned (.int .i64 (ColF L h false).1) ∧ After w w' g b B R L rc (ColF L h false).2.1 (ColF L h false).2.2 := by
  have c9 : w.cell? ⟨g, 9, none⟩ = some (.bool false) := by rw [← hsp]; exact H.c9
  have HM := Aside0.mk (made_any H)
  have HH0 := Aside0.mk H
  have HB := Aside0.mk hs.bds
  have HB1 := Aside0.mk (hs.coll H.apart false)
  obtain ⟨z, hz⟩ : ∃ z, z = ColF L h false := ⟨_, rfl⟩
  have hz2 : z = if (ColMid L h false).2.room1 < (ColMid L h false).2.has1 then (140, (ColMid L h false).1, { (ColMid L h false).2 with spent := true }) else (0, (ColMid L h false).1, (ColMid L h false).2) := by rw [hz]; unfold ColF; rw [if_neg (by simp [hsp])]
  rw [← hz]
  have HZ := Aside0.mk hz2
  clear H hsp hs hz hz2
  unfold ptr
  unfold ptr at HM
  go_enter Try.func17, Try.ntmps17
  go_wp2_with fail
  refine HM.out.mono ?_
  rintro e w1 ⟨rfl, rfl⟩
  go_wp2_with fail
  refine (collect_calls HH0.out HB.out false).mono ?_
  rintro e w2 ⟨rfl, kb, hk, hkl, hfr⟩
  have HAp := Aside0.mk HH0.out.apart
  have HF2 := Aside0.mk hfr
  have HSub := Aside0.mk (show ∀ k, Foot g kb R (collL L h false) k → Foot g b R L k ∨ w1.heap.size ≤ k from fun k hkk => (coll_foot HAp.out hkk).imp id (fun e => by omega))
  clear HM c9 HB hkl hfr HH0
  obtain ⟨L1, hL1⟩ : ∃ L1, L1 = collL L h false := ⟨_, rfl⟩
  obtain ⟨h1, hh1⟩ : ∃ h1, h1 = collHH L h false := ⟨_, rfl⟩
  have HMID := Aside0.mk (show ColMid L h false = if h1.room1 < h1.has1 then (collL L1 h1 true, collHH L1 h1 true) else (L1, h1) by rw [hL1, hh1]; unfold ColMid; simp)
  rw [← hL1] at hk HSub HB1
  rw [← hh1] at hk HB1
  have HK := Aside0.mk hk
  have c6 := hk.c6
  have c4 := hk.c4
  clear hL1 hh1 hk
  go_wp2_with fail
  go_region_held3 (fun w' => w'.cell? ⟨g, 6, none⟩ = some (.int .i64 h1.has1) ∧ w'.cell? ⟨g, 4, none⟩ = some (.int .i64 h1.room1)) (first | exact ⟨c6, c4⟩) (fail)
  have H3 := Aside0.mk (HK.out.fr0 (Fr.drew [] w2))
  have HF3 := Aside0.mk (HF2.out.trans (FrP.new ((Below.refl _ _).drew) _))
  clear HK HF2 c6 c4
  generalize w2.drew = w3 at *
  by_cases hover : h1.room1 < h1.has1
  · have hob : decide (h1.room1 < h1.has1) = true := decide_eq_true hover
    rw [if_pos hover] at HMID
    rw [HMID.out] at HZ
    clear HMID
    go_wp2_with fail
    refine (collect_calls H3.out HB1.out true).mono ?_
    rintro e w5 ⟨rfl, b3, hk, hkl, hfr⟩
    have HSub3 := Aside0.mk (show ∀ k, Foot g b3 R (collL L1 h1 true) k → Foot g b R L k ∨ w1.heap.size ≤ k from fun k hkk => (coll_foot H3.out.apart hkk).elim (HSub.out k) (fun e => by have := HF3.out.size; omega))
    have HF5 := Aside0.mk (HF3.out.grow hfr HSub.out)
    obtain ⟨hm, hhm⟩ : ∃ hm, hm = collHH L1 h1 true := ⟨_, rfl⟩
    rw [← hhm] at hk HZ
    have H5 := Aside0.mk hk
    clear hk hkl hfr hhm H3 HF3
    have H3 := H5
    have HF3 := HF5
    clear H5 HF5
    obtain ⟨w3, hw3⟩ : ∃ w3, w3 = w5 := ⟨_, rfl⟩
    subst hw3
    have c6 := H3.out.c6
    have c4 := H3.out.c4
    have f9 := H3.out.fz 9
    have c9 := H3.out.c9
    go_wp2_with fail
    go_region_held3 (fun w' => w'.cell? ⟨g, 6, none⟩ = some (.int .i64 hm.has1) ∧ w'.cell? ⟨g, 4, none⟩ = some (.int .i64 hm.room1)) (first | exact ⟨c6, c4⟩) (fail)
    have H4 := Aside0.mk (H3.out.fr0 (Fr.drew [] w3))
    have HF4 := Aside0.mk (HF3.out.trans (FrP.new ((Below.refl _ _).drew) _))
    have c9 := H4.out.c9
    have f9 := H4.out.fz 9
    clear H3 HF3 c6 c4
    generalize w3.drew = w4 at *
    by_cases hr : hm.room1 < hm.has1
    · have hrb : decide (hm.room1 < hm.has1) = true := decide_eq_true hr
      rw [if_pos hr] at HZ
      have hzz := HZ.out
      subst hzz
      go_wp2_with fail
      go_returns
      have f1 := Fr.set w4 g 9 (.bool true)
      exact ⟨rfl, b3, H4.out.turned (h' := { hm with spent := true }) f1 (blk_put H4.out.hp 9 _ rfl) rfl (Int.le_refl _), HF4.out.trans ((FrP.ofFr f1).mono (fun k _ hk => .inl (by simpa using hk))), HSub3.out⟩
    · have hrb : decide (hm.room1 < hm.has1) = false := decide_eq_false hr
      rw [if_neg hr] at HZ
      have hzz := HZ.out
      subst hzz
      go_wp2_with fail
      go_returns
      exact ⟨rfl, b3, H4.out, HF4.out, HSub3.out⟩
  · have hob : decide (h1.room1 < h1.has1) = false := decide_eq_false hover
    rw [if_neg hover] at HMID
    rw [HMID.out] at HZ
    have HSub3 := HSub
    clear HMID
    obtain ⟨hm, hhm⟩ : ∃ hm, hm = h1 := ⟨_, rfl⟩
    obtain ⟨b3, hb3⟩ : ∃ b3, b3 = kb := ⟨_, rfl⟩
    subst hhm hb3
    have c6 := H3.out.c6
    have c4 := H3.out.c4
    have f9 := H3.out.fz 9
    have c9 := H3.out.c9
    go_wp2_with fail
    go_region_held3 (fun w' => w'.cell? ⟨g, 6, none⟩ = some (.int .i64 hm.has1) ∧ w'.cell? ⟨g, 4, none⟩ = some (.int .i64 hm.room1)) (first | exact ⟨c6, c4⟩) (fail)
    have H4 := Aside0.mk (H3.out.fr0 (Fr.drew [] w3))
    have HF4 := Aside0.mk (HF3.out.trans (FrP.new ((Below.refl _ _).drew) _))
    have c9 := H4.out.c9
    have f9 := H4.out.fz 9
    clear H3 HF3 c6 c4
    generalize w3.drew = w4 at *
    by_cases hr : hm.room1 < hm.has1
    · exact absurd hr (by omega)
    · have hrb : decide (hm.room1 < hm.has1) = false := decide_eq_false hr
      rw [if_neg hr] at HZ
      have hzz := HZ.out
      subst hzz
      go_wp2_with fail
      go_returns
      exact ⟨rfl, b3, H4.out, HF4.out, HSub3.out⟩
theorem Collect_calls {w : World} {g b B : Nat} {R : Option Addr} {rc : Nat} {L : List OW} {h : HH} (H : HW w g b B R rc L h) (hs : Sm L h) (all : Bool) :
    Calls Try.prog 17 #[ptr g, .bool all] w fun e w' => e = .returned (.int .i64 (ColF L h all).1) ∧ After w w' g b B R L rc (ColF L h all).2.1 (ColF L h all).2.2 := by
  by_cases hsp : h.spent = true
  · refine (Collect_spent H hsp all).mono ?_
    rintro e w' ⟨rfl, rfl⟩
    have : ColF L h all = (140, L, h) := by unfold ColF; rw [if_pos hsp]
    rw [this]
    exact ⟨rfl, b, H, FrP.refl _ _, fun k hk => .inl hk⟩
  · cases all
    · exact Collect_false H hs (by simpa using hsp)
    · exact Collect_true H hs (by simpa using hsp)
end Go.Proofs.Ytlghnldlkbgajaa.S
