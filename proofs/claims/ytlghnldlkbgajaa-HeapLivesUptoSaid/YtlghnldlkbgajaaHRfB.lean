/- heap: the document's heap: Push, Pop, SetRoot, Set. heap: the document's heap: SetRoot, Set, New. heap: the document's heap: appends; reach. -/
import Derived.Test.YtlghnldlkbgajaaHRfA
namespace Go.Proofs.Ytlghnldlkbgajaa.S
open Go.RowKit Go.Proofs.YtlghnldlkbgajaaW.PrintWords Go.Proofs.YtlghnldlkbgajaaW.PrintLast Go.Proofs.YtlghnldlkbgajaaW.PrintMore
set_option linter.unusedVariables false
set_option linter.unusedSimpArgs false
section
variable {w w' : World} {g rc rc' : Nat} {V V' : Value} {R R' : Option Addr} {L L' : List OW} {h : RS}
/-- What a step of the document's heap may touch, and where it lies then. -/
structure StepR (g : Nat) (V : Value) (R : Option Addr) (L : List OW) (V' : Value) (R' : Option Addr) (L' : List OW) (w w' : World) : Prop where
  fr : FrP (FootR g V R L) w w'
  ft : ∀ k, FootR g V' R' L' k → FootR g V R L k ∨ w.heap.size ≤ k
theorem StepR.refl (g : Nat) (V : Value) (R : Option Addr) (L : List OW) (w : World) : StepR g V R L V R L w w := ⟨FrP.refl _ _, fun _ hk => .inl hk⟩
theorem StepR.trans {V2 : Value} {R2 : Option Addr} {L2 : List OW} {w2 : World} (a : StepR g V R L V' R' L' w w') (b : StepR g V' R' L' V2 R2 L2 w' w2) : StepR g V R L V2 R2 L2 w w2 :=
  ⟨a.fr.then (b.fr.mono (fun k _ hk => a.ft k hk)), fun k hk => (b.ft k hk).elim (a.ft k) (fun e => .inr (Nat.le_trans a.fr.size e))⟩
theorem HQ.pushed (H : HQ w g V R rc L h) (m : List Int) (hown : w'.ownsRow 0 28 1 (.slice R' (h.roots.length + m.length) rc') (h.roots.length + m.length) ((h.roots ++ m).map (Value.int .i64))) (hf : FrP (fun k => R = some ⟨k, 0, none⟩) w w')
    (hblk : ∀ k, R' = some ⟨k, 0, none⟩ → R = some ⟨k, 0, none⟩ ∨ w.heap.size ≤ k) :
    HQ (w'.setCell ⟨g, 3, none⟩ (.slice R' (h.roots.length + m.length) rc')) g V R' rc' L { h with roots := h.roots ++ m } ∧ FrP (FootQ g R L) w (w'.setCell ⟨g, 3, none⟩ (.slice R' (h.roots.length + m.length) rc')) ∧ ∀ k, FootQ g R' L k → FootQ g R L k ∨ w.heap.size ≤ k := by
  have f2 := Fr.set w' g 3 (.slice R' (h.roots.length + m.length) rc')
  have hrl : ((h.roots ++ m).length : Nat) = h.roots.length + m.length := List.length_append
  have hgR : ¬ R = some ⟨g, 0, none⟩ := fun e => H.ne_gr e rfl
  have htR : ∀ x ∈ L, ¬ R = some ⟨x.t, 0, none⟩ := fun x hx e => H.ne_tr hx e rfl
  have hfR : ∀ x ∈ L, x.o.fs ≠ [] → ¬ R = some ⟨x.fb, 0, none⟩ := fun x hx hne e => H.far x hx _ e hne rfl
  have hlt : ∀ k, FootQ g R L k → k < w.heap.size := fun k hk => H.foot_lt hk
  refine ⟨⟨?_, ?_, fun x hx => f2.get (hf.get (H.ob x hx) (htR x hx)) (by simpa using H.ne_gt hx), fun x hx => ((H.row x hx).frp hf (hfR x hx)).fr f2 (fun hne => by simpa using H.ne_gf hx hne), H.one, fun x hx rb hrb hne => ?_⟩, ?_, fun k hk => ?_⟩
  · have := blk_put (hf.get H.hp hgR) 3 (.slice R' (h.roots.length + m.length) rc') rfl
    rw [this]
    simp [rsObj]
  · show World.ownsRow _ 0 28 1 (.slice R' (h.roots ++ m).length rc') (h.roots ++ m).length _
    rw [hrl]
    refine own_fr hown f2 (fun k hk => ?_)
    rcases hown.2 with ⟨h1, -⟩ | ⟨q, cap, cur, h1, -⟩
    · rw [h1] at hk; cases hk
    · rw [h1] at hk
      obtain rfl : q = k := by simpa [Value.ownBlock] using hk
      simp only [Value.slice.injEq] at h1
      rcases hblk q h1.1 with e | e
      · simpa using H.ne_gr e
      · have := hlt g (.inl rfl)
        simp; omega
  · rcases hblk rb hrb with e | e
    · exact H.far x hx rb e hne
    · have := hlt x.fb (.inr (.inr ⟨x, hx, .inr ⟨hne, rfl⟩⟩))
      omega
  · exact (hf.mono (fun k _ hk => .inr (.inl hk))).trans ((FrP.ofFr f2).mono (fun k _ hk => .inl (by simpa using hk)))
  · rcases hk with hk | hk | hk
    · exact .inl (.inl hk)
    · exact (hblk k hk).imp (fun e => .inr (.inl e)) id
    · exact .inl (.inr (.inr hk))
theorem HQ.popped (H : HQ w g V R rc L h) {n : Nat} (hn : n ≤ h.roots.length) : HQ (w.setCell ⟨g, 3, none⟩ (.slice R n rc)) g V R rc L { h with roots := h.roots.take n } := by
  have f2 := Fr.set w g 3 (.slice R n rc)
  have hl : (h.roots.take n).length = n := by rw [List.length_take]; omega
  refine ⟨?_, ?_, fun x hx => f2.get (H.ob x hx) (by simpa using H.ne_gt hx), fun x hx => (H.row x hx).fr f2 (fun hne => by simpa using H.ne_gf hx hne), H.one, H.far⟩
  · have := blk_put H.hp 3 (.slice R n rc) rfl
    rw [this]
    simp only [rsObj, hl]
    rfl
  · show World.ownsRow _ 0 28 1 (.slice R (h.roots.take n).length rc) (h.roots.take n).length _
    rw [hl]
    refine ⟨by rw [List.length_map, hl, Nat.mul_one], ?_⟩
    rcases H.rt.2 with ⟨h1, h2⟩ | ⟨q, cap, cur, h1, h2, h3, h4, h5, h6, h7⟩
    · simp only [Value.slice.injEq] at h1
      obtain rfl : n = 0 := by omega
      exact .inl ⟨by rw [h1.1, h1.2.2], rfl⟩
    · have h1' := h1
      simp only [Value.slice.injEq] at h1
      obtain ⟨rfl, -, rfl⟩ := h1
      refine .inr ⟨q, rc, cur, rfl, h2, f2.get h3 (by simpa using H.ne_gr rfl), by omega, h5, h6, ?_⟩
      have e : cur.toList.take (n * 1) = (cur.toList.take (h.roots.length * 1)).take n := by rw [List.take_take]; congr 1; omega
      rw [e, h7, List.map_take]
/-- A heap whose own blocks changed, its pointers' row not. -/
theorem HR.after {h' : RS} (H : HR w g V R rc L h) (Q : HQ w' g V R' rc' L h') (hf : FrP (FootQ g R L) w w') (hn : h.nx ≤ h'.nx) : HR w' g V R' rc' L h' :=
  ⟨Q, H.ps.foot H.q hf, H.keys, fun x hx => by have := H.low x hx; exact ⟨this.1, by omega, this.2.2⟩⟩
theorem StepR.ofQ (hf : FrP (FootQ g R L) w w') (ht : ∀ k, FootQ g R' L' k → FootQ g R L k ∨ w.heap.size ≤ k) : StepR g V R L V R' L' w w' :=
  ⟨hf.mono (fun k _ hk => .inl hk), fun k hk => hk.elim (fun e => (ht k e).imp .inl id) (fun e => .inl (.inr e))⟩
set_option maxRecDepth 100000 in
theorem rpush_word (H : HR w g V R rc L h) (hL : L.length ≤ 1000000) {x : Int} (hx : thereB L x = false) : Calls Try.prog 71 #[ptr g, .int .i64 x] w fun e w' => e = .returned (.int .i64 141) ∧ w' = w := by
  have HT := Aside0.mk (rthere_calls H hL x)
  rw [hx] at HT
  unfold ptr
  unfold ptr at HT
  clear H hL hx
  go_enter Try.func71, Try.ntmps71
  go_wp2_with fail
  refine HT.out.mono ?_
  rintro e w1 ⟨rfl, rfl⟩
  go_wp2_with fail
  go_returns
  exact ⟨rfl, rfl⟩
set_option maxRecDepth 100000 in
theorem rpush_full (H : HR w g V R rc L h) (hL : L.length ≤ 1000000) {x : Int} (hx : thereB L x = true) (hl : 10000 ≤ h.roots.length) : Calls Try.prog 71 #[ptr g, .int .i64 x] w fun e w' => e = .returned (.int .i64 4) ∧ w' = w := by
  have HT := Aside0.mk (rthere_calls H hL x)
  rw [hx] at HT
  have c3 := H.q.c3
  have b2 : decide ((10000 : Int) ≤ (h.roots.length : Int)) = true := decide_eq_true (by omega)
  unfold ptr
  unfold ptr at HT
  clear H hL hx
  go_enter Try.func71, Try.ntmps71
  go_wp2_with fail
  refine HT.out.mono ?_
  rintro e w1 ⟨rfl, rfl⟩
  go_wp2_with fail
  go_returns
  exact ⟨rfl, rfl⟩
set_option maxRecDepth 100000 in
theorem rpush_calls (H : HR w g V R rc L h) (hL : L.length ≤ 1000000) {x : Int} (hx : thereB L x = true) (hl : h.roots.length < 10000) : Calls Try.prog 71 #[ptr g, .int .i64 x] w fun e w' => e = .returned (.int .i64 0) ∧ ∃ R' rc', HR w' g V R' rc' L { h with roots := h.roots ++ [x] } ∧ StepR g V R L V R' L w w' := by
  have HT := Aside0.mk (rthere_calls H hL x)
  rw [hx] at HT
  have c3 := H.q.c3
  have b2 : decide ((10000 : Int) ≤ (h.roots.length : Int)) = false := decide_eq_false (by omega)
  have hbL : Below w.heap.size w (w.alloc (.cells #[.int .i64 x] 28)) := (Below.refl _ _).alloc (Nat.le_refl _) _
  have HL := H.new hbL
  have hrow : Row (w.alloc (.cells #[.int .i64 x] 28)) w.heap.size [x] := ⟨_, heap_alloc_new w _, fun i hi => by
    rcases i with _ | i
    · rfl
    · exact absurd hi (by simp)⟩
  obtain ⟨R', rc', wA, hrun, hown, hfA, hblk⟩ := append_words HL.q.rt (A := some ⟨w.heap.size, 0, none⟩) (c := 1) (m := [x]) (fun _ => ⟨_, rfl, hrow⟩) (by simp; omega)
  have hgA := hfA.get HL.q.hp (fun e => HL.q.ne_gr e rfl)
  have c3A : wA.cell? ⟨g, 3, none⟩ = some (.slice R h.roots.length rc) := (blk_cell hgA 3).trans rfl
  have f3A : wA.frozen? ⟨g, 3, none⟩ = false := blk_frozen hgA 3
  obtain ⟨hpu, hpf, hpk⟩ := HL.q.pushed [x] hown hfA hblk
  have HPU := Aside0.mk (And.intro (HL.after hpu hpf (by show h.nx ≤ h.nx; omega)) (StepR.ofQ (V := V) ((FrP.new hbL _).trans hpf) (fun k hk => (hpk k hk).imp id (fun e => Nat.le_trans hbL.size e))))
  simp only [List.length_singleton] at hrun HPU
  clear H HL hL hbL hrow hown hfA hblk hgA hpu hpf hpk hx
  unfold ptr
  unfold ptr at HT
  go_enter Try.func71, Try.ntmps71
  go_wp2_with fail
  refine HT.out.mono ?_
  rintro e w1 ⟨rfl, rfl⟩
  go_wp2_with (at_builtin; refine wpList_plain rfl fun K hK => wp_append_words _ _ 33 rfl _ _ _ _ rfl rfl hrun (hK _ _ ?_))
  go_returns
  exact ⟨rfl, R', rc', HPU.out⟩
set_option maxRecDepth 100000 in
theorem rpop_arg (H : HQ w g V R rc L h) {n : Int} (hn : n < 0 ∨ (h.roots.length : Int) < n) : Calls Try.prog 52 #[ptr g, .int .i64 n] w fun e w' => e = .returned (.int .i64 1) ∧ w' = w := by
  have c3 := H.c3
  clear H
  unfold ptr
  by_cases h0 : n < 0
  · have b1 : decide (n < 0) = true := decide_eq_true h0
    clear hn h0
    go_enter Try.func52, Try.ntmps52
    go_wp2_with fail
    go_returns
    exact ⟨rfl, rfl⟩
  · have b1 : decide (n < 0) = false := decide_eq_false h0
    have b2 : decide ((h.roots.length : Int) < n) = true := decide_eq_true (hn.resolve_left h0)
    clear hn h0
    go_enter Try.func52, Try.ntmps52
    go_wp2_with fail
    go_returns
    exact ⟨rfl, rfl⟩
set_option maxRecDepth 100000 in
set_option maxHeartbeats 1000000 in
theorem rpop_calls (H : HR w g V R rc L h) {n : Nat} (hn : n ≤ h.roots.length) (hl : h.roots.length ≤ 1000000) : Calls Try.prog 52 #[ptr g, .int .i64 n] w fun e w' => e = .returned (.int .i64 0) ∧ HR w' g V R rc L { h with roots := h.roots.take (h.roots.length - n) } ∧ StepR g V R L V R L w w' := by
  have HH0 := Aside0.mk H
  have f3d : w.drew.frozen? ⟨g, 3, none⟩ = false := H.q.fz 3
  have b1 : decide ((n : Int) < 0) = false := decide_eq_false (by omega)
  have hfin : ∀ m, m ≤ h.roots.length → HR (w.drew.setCell ⟨g, 3, none⟩ (.slice R m rc)) g V R rc L { h with roots := h.roots.take m } ∧ StepR g V R L V R L w (w.drew.setCell ⟨g, 3, none⟩ (.slice R m rc)) := fun m hm => by
    have hf : FrP (FootQ g R L) w (w.drew.setCell ⟨g, 3, none⟩ (.slice R m rc)) := ((FrP.ofFr (Fr.drew [] w)).mono (by simp)).trans ((FrP.ofFr (Fr.set w.drew g 3 (.slice R m rc))).mono (fun k _ hk => .inl (by simpa using hk)))
    have hd := H.fr0 (Fr.drew [] w)
    exact ⟨H.after (hd.q.popped hm) hf (by show h.nx ≤ h.nx; omega), StepR.ofQ hf (fun k hk => .inl hk)⟩
  have HFIN := Aside0.mk hfin
  unfold ptr
  rcases H.q.rt.2 with ⟨hv, hn0⟩ | ⟨rb, cap, cur, hv, -, -, hncap, -⟩
  · simp only [Value.slice.injEq] at hv
    obtain ⟨rfl, -, rfl⟩ := hv
    have hn00 : n = 0 := by omega
    subst hn00
    have c3 : w.cell? ⟨g, 3, none⟩ = some (.slice none 0 0) := by have := H.q.c3; rw [hn0] at this; exact this
    have c3d : w.drew.cell? ⟨g, 3, none⟩ = some (.slice none 0 0) := c3
    have HSB := Aside0.mk (show IntKind.i64.wrap ((0 : Int) - ((0 : Nat) : Int)) = 0 by decide)
    have HN0 := Aside0.mk hn0
    clear H hn hl hn0 hfin
    go_enter Try.func52, Try.ntmps52
    go_wp2_with fail
    refine start_ (n := 16) (S := (fun w' => w'.cell? ⟨g, 3, none⟩ = some (.slice none 0 0))) (ds := [15]) #[false, false, false, false, false, false, false, false, false, false, false, false, false, false, false, false] (by kernel_rfl) rfl rfl c3d (fun hHeld => ?_)
    refine take_ (i := 0) (N := some 16) (v := ?_) (a' := ?_) #[true, false, false, false, false, false, false, false, false, false, false, false, false, false, false, false] rfl rfl (by kernel_rfl) (fun _ _ _ h => h) (Or.inl ⟨by rfl, ?_⟩) hHeld ?_ ?_
    rotate_left
    · rintro w' s0
      go_simp
      with_reducible rfl
    rotate_left
    · simp only [Act.put, List.setIfInBounds_toArray, List.set_cons_zero, List.set_cons_succ, i64_w, i32_w]
      rfl
    refine take_ (i := 1) (N := some 17) (v := ?_) (a' := ?_) #[true, true, false, false, false, false, false, false, false, false, false, false, false, false, false, false] rfl rfl (by kernel_rfl) (fun _ _ _ h => h) (Or.inl ⟨by rfl, ?_⟩) hHeld ?_ ?_
    rotate_left
    · rintro w' s0
      go_simp
      with_reducible rfl
    rotate_left
    · simp only [Act.put, List.setIfInBounds_toArray, List.set_cons_zero, List.set_cons_succ, i64_w, i32_w]
      rfl
    refine take_ (i := 2) (N := some 18) (v := ?_) (a' := ?_) #[true, true, true, false, false, false, false, false, false, false, false, false, false, false, false, false] rfl rfl (by kernel_rfl) (fun _ _ _ h => h) (Or.inl ⟨by rfl, ?_⟩) hHeld ?_ ?_
    rotate_left
    · rintro w' s0
      go_simp
      with_reducible rfl
    rotate_left
    · simp only [Act.put, List.setIfInBounds_toArray, List.set_cons_zero, List.set_cons_succ, i64_w, i32_w]
      rfl
    refine take_ (i := 3) (N := some 19) (v := ?_) (a' := ?_) #[true, true, true, true, false, false, false, false, false, false, false, false, false, false, false, false] rfl rfl (by kernel_rfl) (fun _ _ _ h => h) (Or.inl ⟨by rfl, ?_⟩) hHeld ?_ ?_
    rotate_left
    · rintro w' s0
      go_simp
      with_reducible rfl
    rotate_left
    · simp only [Act.put, List.setIfInBounds_toArray, List.set_cons_zero, List.set_cons_succ, i64_w, i32_w]
      rfl
    refine take_ (i := 4) (N := some 20) (v := ?_) (a' := ?_) #[true, true, true, true, true, false, false, false, false, false, false, false, false, false, false, false] rfl rfl (by kernel_rfl) (fun _ _ _ h => h) (Or.inl ⟨by rfl, ?_⟩) hHeld ?_ ?_
    rotate_left
    · rintro w' s0
      go_simp
      with_reducible rfl
    rotate_left
    · simp only [Act.put, List.setIfInBounds_toArray, List.set_cons_zero, List.set_cons_succ, i64_w, i32_w]
      rfl
    refine take_ (i := 5) (N := some 21) (v := ?_) (a' := ?_) #[true, true, true, true, true, true, false, false, false, false, false, false, false, false, false, false] rfl rfl (by kernel_rfl) (fun _ _ _ h => h) (Or.inl ⟨by rfl, ?_⟩) hHeld ?_ ?_
    rotate_left
    · rintro w' s0
      go_simp
      with_reducible rfl
    rotate_left
    · simp only [Act.put, List.setIfInBounds_toArray, List.set_cons_zero, List.set_cons_succ, i64_w, i32_w]
      rfl
    refine take_ (i := 6) (N := some 22) (v := ?_) (a' := ?_) #[true, true, true, true, true, true, true, false, false, false, false, false, false, false, false, false] rfl rfl (by kernel_rfl) (fun _ _ _ h => h) (Or.inl ⟨by rfl, ?_⟩) hHeld ?_ ?_
    rotate_left
    · rintro w' s0
      go_simp
      with_reducible rfl
    rotate_left
    · simp only [Act.put, List.setIfInBounds_toArray, List.set_cons_zero, List.set_cons_succ, i64_w, i32_w]
      rfl
    refine take_ (i := 7) (N := some 23) (v := ?_) (a' := ?_) #[true, true, true, true, true, true, true, true, false, false, false, false, false, false, false, false] rfl rfl (by kernel_rfl) (fun _ _ _ h => h) (Or.inl ⟨by rfl, ?_⟩) hHeld ?_ ?_
    rotate_left
    · rintro w' s0
      go_simp
      with_reducible rfl
    rotate_left
    · simp only [Act.put, List.setIfInBounds_toArray, List.set_cons_zero, List.set_cons_succ, i64_w, i32_w]
      rfl
    refine take_ (i := 8) (N := some 24) (v := ?_) (a' := ?_) #[true, true, true, true, true, true, true, true, true, false, false, false, false, false, false, false] rfl rfl (by kernel_rfl) (fun _ _ _ h => h) (Or.inl ⟨by rfl, ?_⟩) hHeld ?_ ?_
    rotate_left
    · rintro w' s0
      go_simp
      with_reducible rfl
    rotate_left
    · simp only [Act.put, List.setIfInBounds_toArray, List.set_cons_zero, List.set_cons_succ, i64_w, i32_w]
      rfl
    refine take_ (i := 9) (N := some 25) (v := ?_) (a' := ?_) #[true, true, true, true, true, true, true, true, true, true, false, false, false, false, false, false] rfl rfl (by kernel_rfl) (fun _ _ _ h => h) (Or.inl ⟨by rfl, ?_⟩) hHeld ?_ ?_
    rotate_left
    · rintro w' s0
      go_simp
      with_reducible rfl
    rotate_left
    · simp only [Act.put, List.setIfInBounds_toArray, List.set_cons_zero, List.set_cons_succ, i64_w, i32_w]
      rfl
    refine take_ (i := 10) (N := some 26) (v := ?_) (a' := ?_) #[true, true, true, true, true, true, true, true, true, true, true, false, false, false, false, false] rfl rfl (by kernel_rfl) (fun _ _ _ h => h) (Or.inl ⟨by rfl, ?_⟩) hHeld ?_ ?_
    rotate_left
    · rintro w' s0
      go_simp
      with_reducible rfl
    rotate_left
    · simp only [Act.put, List.setIfInBounds_toArray, List.set_cons_zero, List.set_cons_succ, i64_w, i32_w]
      rfl
    refine take_ (i := 11) (N := some 27) (v := .int .i64 0) (a' := ?_) #[true, true, true, true, true, true, true, true, true, true, true, true, false, false, false, false] rfl rfl (by kernel_rfl) (fun _ _ _ h => h) (Or.inl ⟨by rfl, by rintro w' s0; go_simp; (first | exact HSB.out | rfl)⟩) hHeld ?_ ?_
    rotate_left
    · simp only [Act.put, List.setIfInBounds_toArray, List.set_cons_zero, List.set_cons_succ, i64_w, i32_w]
      rfl
    refine take_ (i := 12) (N := some 28) (v := ?_) (a' := ?_) #[true, true, true, true, true, true, true, true, true, true, true, true, true, false, false, false] rfl rfl (by kernel_rfl) (fun _ _ _ h => h) (Or.inl ⟨by rfl, ?_⟩) hHeld ?_ ?_
    rotate_left
    · rintro w' s0
      go_simp
      with_reducible rfl
    rotate_left
    · simp only [Act.put, List.setIfInBounds_toArray, List.set_cons_zero, List.set_cons_succ, i64_w, i32_w]
      rfl
    refine take_ (i := 13) (N := some 29) (v := ?_) (a' := ?_) #[true, true, true, true, true, true, true, true, true, true, true, true, true, true, false, false] rfl rfl (by kernel_rfl) (fun _ _ _ h => h) (Or.inl ⟨by rfl, ?_⟩) hHeld ?_ ?_
    rotate_left
    · rintro w' s0
      go_simp
      with_reducible rfl
    rotate_left
    · simp only [Act.put, List.setIfInBounds_toArray, List.set_cons_zero, List.set_cons_succ, i64_w, i32_w]
      rfl
    refine take_ (i := 14) (N := some 30) (v := ?_) (a' := ?_) #[true, true, true, true, true, true, true, true, true, true, true, true, true, true, true, false] rfl rfl (by kernel_rfl) (fun _ _ _ h => h) (Or.inl ⟨by rfl, ?_⟩) hHeld ?_ ?_
    rotate_left
    · rintro w' s0
      go_simp
      with_reducible rfl
    rotate_left
    · simp only [Act.put, List.setIfInBounds_toArray, List.set_cons_zero, List.set_cons_succ, i64_w, i32_w]
      rfl
    refine last_ (i := 15) (N := none) #[true, true, true, true, true, true, true, true, true, true, true, true, true, true, true, true] rfl rfl (by kernel_rfl) (by decide) (fun K hK => ?_)
    refine skip_ (w1 := ?_) (by rfl) rfl ?_ ?_
    rotate_left
    · go_simp
      rfl
    refine hK.out _ _ ?_
    clear hK K
    refine done_ (by kernel_rfl) ?_

    go_wp2_with fail
    go_returns
    have h2 := HFIN.out 0 (Nat.zero_le _)
    rw [show h.roots.length - 0 = 0 by rw [HN0.out]]
    exact ⟨rfl, h2⟩
  · simp only [Value.slice.injEq] at hv
    obtain ⟨rfl, -, rfl⟩ := hv
    have c3 := H.q.c3
    have c3d : w.drew.cell? ⟨g, 3, none⟩ = some (.slice (some ⟨rb, 0, none⟩) h.roots.length rc) := c3
    have b2 : decide ((h.roots.length : Int) < (n : Int)) = false := decide_eq_false (by omega)
    have b3 : decide (h.roots.length < n) = false := decide_eq_false (by omega)
    have HSB := Aside0.mk (show IntKind.i64.wrap ((h.roots.length : Int) - (n : Int)) = ((h.roots.length - n : Nat) : Int) by rw [IntKind.wrap_i64]; omega)
    have hs1 : h.roots.length - n ≤ rc := by omega
    have HN0 := Aside0.mk hn
    clear H hn hl hfin
    go_enter Try.func52, Try.ntmps52
    go_wp2_with fail
    refine start_ (n := 16) (S := (fun w' => w'.cell? ⟨g, 3, none⟩ = some (.slice (some ⟨rb, 0, none⟩) h.roots.length rc))) (ds := [15]) #[false, false, false, false, false, false, false, false, false, false, false, false, false, false, false, false] (by kernel_rfl) rfl rfl c3d (fun hHeld => ?_)
    refine take_ (i := 0) (N := some 16) (v := ?_) (a' := ?_) #[true, false, false, false, false, false, false, false, false, false, false, false, false, false, false, false] rfl rfl (by kernel_rfl) (fun _ _ _ h => h) (Or.inl ⟨by rfl, ?_⟩) hHeld ?_ ?_
    rotate_left
    · rintro w' s0
      go_simp
      with_reducible rfl
    rotate_left
    · simp only [Act.put, List.setIfInBounds_toArray, List.set_cons_zero, List.set_cons_succ, i64_w, i32_w]
      rfl
    refine take_ (i := 1) (N := some 17) (v := ?_) (a' := ?_) #[true, true, false, false, false, false, false, false, false, false, false, false, false, false, false, false] rfl rfl (by kernel_rfl) (fun _ _ _ h => h) (Or.inl ⟨by rfl, ?_⟩) hHeld ?_ ?_
    rotate_left
    · rintro w' s0
      go_simp
      with_reducible rfl
    rotate_left
    · simp only [Act.put, List.setIfInBounds_toArray, List.set_cons_zero, List.set_cons_succ, i64_w, i32_w]
      rfl
    refine take_ (i := 2) (N := some 18) (v := ?_) (a' := ?_) #[true, true, true, false, false, false, false, false, false, false, false, false, false, false, false, false] rfl rfl (by kernel_rfl) (fun _ _ _ h => h) (Or.inl ⟨by rfl, ?_⟩) hHeld ?_ ?_
    rotate_left
    · rintro w' s0
      go_simp
      with_reducible rfl
    rotate_left
    · simp only [Act.put, List.setIfInBounds_toArray, List.set_cons_zero, List.set_cons_succ, i64_w, i32_w]
      rfl
    refine take_ (i := 3) (N := some 19) (v := ?_) (a' := ?_) #[true, true, true, true, false, false, false, false, false, false, false, false, false, false, false, false] rfl rfl (by kernel_rfl) (fun _ _ _ h => h) (Or.inl ⟨by rfl, ?_⟩) hHeld ?_ ?_
    rotate_left
    · rintro w' s0
      go_simp
      with_reducible rfl
    rotate_left
    · simp only [Act.put, List.setIfInBounds_toArray, List.set_cons_zero, List.set_cons_succ, i64_w, i32_w]
      rfl
    refine take_ (i := 4) (N := some 20) (v := ?_) (a' := ?_) #[true, true, true, true, true, false, false, false, false, false, false, false, false, false, false, false] rfl rfl (by kernel_rfl) (fun _ _ _ h => h) (Or.inl ⟨by rfl, ?_⟩) hHeld ?_ ?_
    rotate_left
    · rintro w' s0
      go_simp
      with_reducible rfl
    rotate_left
    · simp only [Act.put, List.setIfInBounds_toArray, List.set_cons_zero, List.set_cons_succ, i64_w, i32_w]
      rfl
    refine take_ (i := 5) (N := some 21) (v := ?_) (a' := ?_) #[true, true, true, true, true, true, false, false, false, false, false, false, false, false, false, false] rfl rfl (by kernel_rfl) (fun _ _ _ h => h) (Or.inl ⟨by rfl, ?_⟩) hHeld ?_ ?_
    rotate_left
    · rintro w' s0
      go_simp
      with_reducible rfl
    rotate_left
    · simp only [Act.put, List.setIfInBounds_toArray, List.set_cons_zero, List.set_cons_succ, i64_w, i32_w]
      rfl
    refine take_ (i := 6) (N := some 22) (v := ?_) (a' := ?_) #[true, true, true, true, true, true, true, false, false, false, false, false, false, false, false, false] rfl rfl (by kernel_rfl) (fun _ _ _ h => h) (Or.inl ⟨by rfl, ?_⟩) hHeld ?_ ?_
    rotate_left
    · rintro w' s0
      go_simp
      with_reducible rfl
    rotate_left
    · simp only [Act.put, List.setIfInBounds_toArray, List.set_cons_zero, List.set_cons_succ, i64_w, i32_w]
      rfl
    refine take_ (i := 7) (N := some 23) (v := ?_) (a' := ?_) #[true, true, true, true, true, true, true, true, false, false, false, false, false, false, false, false] rfl rfl (by kernel_rfl) (fun _ _ _ h => h) (Or.inl ⟨by rfl, ?_⟩) hHeld ?_ ?_
    rotate_left
    · rintro w' s0
      go_simp
      with_reducible rfl
    rotate_left
    · simp only [Act.put, List.setIfInBounds_toArray, List.set_cons_zero, List.set_cons_succ, i64_w, i32_w]
      rfl
    refine take_ (i := 8) (N := some 24) (v := ?_) (a' := ?_) #[true, true, true, true, true, true, true, true, true, false, false, false, false, false, false, false] rfl rfl (by kernel_rfl) (fun _ _ _ h => h) (Or.inl ⟨by rfl, ?_⟩) hHeld ?_ ?_
    rotate_left
    · rintro w' s0
      go_simp
      with_reducible rfl
    rotate_left
    · simp only [Act.put, List.setIfInBounds_toArray, List.set_cons_zero, List.set_cons_succ, i64_w, i32_w]
      rfl
    refine take_ (i := 9) (N := some 25) (v := ?_) (a' := ?_) #[true, true, true, true, true, true, true, true, true, true, false, false, false, false, false, false] rfl rfl (by kernel_rfl) (fun _ _ _ h => h) (Or.inl ⟨by rfl, ?_⟩) hHeld ?_ ?_
    rotate_left
    · rintro w' s0
      go_simp
      with_reducible rfl
    rotate_left
    · simp only [Act.put, List.setIfInBounds_toArray, List.set_cons_zero, List.set_cons_succ, i64_w, i32_w]
      rfl
    refine take_ (i := 10) (N := some 26) (v := ?_) (a' := ?_) #[true, true, true, true, true, true, true, true, true, true, true, false, false, false, false, false] rfl rfl (by kernel_rfl) (fun _ _ _ h => h) (Or.inl ⟨by rfl, ?_⟩) hHeld ?_ ?_
    rotate_left
    · rintro w' s0
      go_simp
      with_reducible rfl
    rotate_left
    · simp only [Act.put, List.setIfInBounds_toArray, List.set_cons_zero, List.set_cons_succ, i64_w, i32_w]
      rfl
    refine take_ (i := 11) (N := some 27) (v := .int .i64 ((h.roots.length - n : Nat) : Int)) (a' := ?_) #[true, true, true, true, true, true, true, true, true, true, true, true, false, false, false, false] rfl rfl (by kernel_rfl) (fun _ _ _ h => h) (Or.inl ⟨by rfl, by rintro w' s0; go_simp; (first | exact HSB.out | rfl)⟩) hHeld ?_ ?_
    rotate_left
    · simp only [Act.put, List.setIfInBounds_toArray, List.set_cons_zero, List.set_cons_succ, i64_w, i32_w]
      rfl
    refine take_ (i := 12) (N := some 28) (v := ?_) (a' := ?_) #[true, true, true, true, true, true, true, true, true, true, true, true, true, false, false, false] rfl rfl (by kernel_rfl) (fun _ _ _ h => h) (Or.inl ⟨by rfl, ?_⟩) hHeld ?_ ?_
    rotate_left
    · rintro w' s0
      go_simp
      with_reducible rfl
    rotate_left
    · simp only [Act.put, List.setIfInBounds_toArray, List.set_cons_zero, List.set_cons_succ, i64_w, i32_w]
      rfl
    refine take_ (i := 13) (N := some 29) (v := ?_) (a' := ?_) #[true, true, true, true, true, true, true, true, true, true, true, true, true, true, false, false] rfl rfl (by kernel_rfl) (fun _ _ _ h => h) (Or.inl ⟨by rfl, ?_⟩) hHeld ?_ ?_
    rotate_left
    · rintro w' s0
      go_simp
      with_reducible rfl
    rotate_left
    · simp only [Act.put, List.setIfInBounds_toArray, List.set_cons_zero, List.set_cons_succ, i64_w, i32_w]
      rfl
    refine take_ (i := 14) (N := some 30) (v := ?_) (a' := ?_) #[true, true, true, true, true, true, true, true, true, true, true, true, true, true, true, false] rfl rfl (by kernel_rfl) (fun _ _ _ h => h) (Or.inl ⟨by rfl, ?_⟩) hHeld ?_ ?_
    rotate_left
    · rintro w' s0
      go_simp
      with_reducible rfl
    rotate_left
    · simp only [Act.put, List.setIfInBounds_toArray, List.set_cons_zero, List.set_cons_succ, i64_w, i32_w]
      rfl
    refine last_ (i := 15) (N := none) #[true, true, true, true, true, true, true, true, true, true, true, true, true, true, true, true] rfl rfl (by kernel_rfl) (by decide) (fun K hK => ?_)
    refine skip_ (w1 := ?_) (by rfl) rfl ?_ ?_
    rotate_left
    · go_simp
      rfl
    refine hK.out _ _ ?_
    clear hK K
    refine done_ (by kernel_rfl) ?_

    go_wp2_with fail
    go_returns
    have h2 := HFIN.out (h.roots.length - n) (by omega)
    exact ⟨rfl, h2⟩
end
end Go.Proofs.Ytlghnldlkbgajaa.S
namespace Go.Proofs.Ytlghnldlkbgajaa.S
open Go.RowKit Go.Proofs.YtlghnldlkbgajaaW.PrintWords Go.Proofs.YtlghnldlkbgajaaW.PrintLast Go.Proofs.YtlghnldlkbgajaaW.PrintMore
set_option linter.unusedVariables false
set_option linter.unusedSimpArgs false
section
variable {w w' : World} {g rc rc' : Nat} {V V' : Value} {R R' : Option Addr} {L L' : List OW} {h : RS}
theorem HQ.setRoot {rb : Nat} (H : HQ w g V (some ⟨rb, 0, none⟩) rc L h) {i : Nat} (hi : i < h.roots.length) (x : Int) : HQ (w.setCell ⟨rb, i, none⟩ (.int .i64 x)) g V (some ⟨rb, 0, none⟩) rc L { h with roots := h.roots.set i x } := by
  have f := Fr.set w rb i (.int .i64 x)
  have e : (rsObj V (some ⟨rb, 0, none⟩) rc { h with roots := h.roots.set i x }) = rsObj V (some ⟨rb, 0, none⟩) rc h := by simp [rsObj]
  refine ⟨by rw [e]; exact f.get H.hp (by simpa using (H.ne_gr rfl).symm), ?_, fun y hy => f.get (H.ob y hy) (by simpa using H.ne_tr hy rfl), fun y hy => (H.row y hy).fr f (fun hne => by simpa using H.far y hy rb rfl hne), H.one, H.far⟩
  rcases H.rt.2 with ⟨h1, h2⟩ | ⟨qb, cap, cur, h1, h2, h3, h4, h5, h6, h7⟩
  · omega
  · simp only [Value.slice.injEq, Option.some.injEq, Addr.mk.injEq, and_true, true_and] at h1
    obtain ⟨rfl, rfl⟩ := h1
    refine ⟨by simp, .inr ⟨rb, rc, cur.setIfInBounds i (.int .i64 x), by simp, h2, blk_put h3 i _ rfl, by simp only [List.length_set]; exact h4, h5, by simpa using h6, ?_⟩⟩
    have h8 : (h.roots.set i x).length = h.roots.length := by simp
    show (cur.setIfInBounds i (.int .i64 x)).toList.take ((h.roots.set i x).length * 1) = (h.roots.set i x).map (Value.int .i64)
    rw [h8, Array.toList_setIfInBounds, List.take_set, h7]
    simp [List.map_set]
set_option maxRecDepth 100000 in
theorem rsetroot_arg (H : HQ w g V R rc L h) {i : Int} (hi : i < 0 ∨ (h.roots.length : Int) ≤ i) (x : Int) : Calls Try.prog 53 #[ptr g, .int .i64 i, .int .i64 x] w fun e w' => e = .returned (.int .i64 1) ∧ w' = w := by
  have c3 := H.c3
  clear H
  unfold ptr
  by_cases h0 : i < 0
  · have b1 : decide (i < 0) = true := decide_eq_true h0
    clear hi h0
    go_enter Try.func53, Try.ntmps53
    go_wp2_with fail
    go_returns
    exact ⟨rfl, rfl⟩
  · have b1 : decide (i < 0) = false := decide_eq_false h0
    have b2 : decide ((h.roots.length : Int) ≤ i) = true := decide_eq_true (hi.resolve_left h0)
    clear hi h0
    go_enter Try.func53, Try.ntmps53
    go_wp2_with fail
    go_returns
    exact ⟨rfl, rfl⟩
set_option maxRecDepth 100000 in
theorem rsetroot_word (H : HR w g V R rc L h) (hL : L.length ≤ 1000000) {i : Nat} (hi : i < h.roots.length) {x : Int} (hx : thereB L x = false) : Calls Try.prog 53 #[ptr g, .int .i64 i, .int .i64 x] w fun e w' => e = .returned (.int .i64 141) ∧ w' = w := by
  have c3 := H.q.c3
  have HT := Aside0.mk (rthere_calls H hL x)
  rw [hx] at HT
  have b1 : decide ((i : Int) < 0) = false := decide_eq_false (by omega)
  have b2 : decide ((h.roots.length : Int) ≤ (i : Int)) = false := decide_eq_false (by omega)
  clear H hL
  unfold ptr
  unfold ptr at HT
  go_enter Try.func53, Try.ntmps53
  go_wp2_with fail
  refine HT.out.mono ?_
  rintro e w1 ⟨rfl, rfl⟩
  go_wp2_with fail
  go_returns
  exact ⟨rfl, rfl⟩
set_option maxRecDepth 100000 in
theorem rsetroot_calls (H : HR w g V R rc L h) (hL : L.length ≤ 1000000) {i : Nat} (hi : i < h.roots.length) {x : Int} (hx : thereB L x = true) : Calls Try.prog 53 #[ptr g, .int .i64 i, .int .i64 x] w fun e w' => e = .returned (.int .i64 0) ∧ HR w' g V R rc L { h with roots := h.roots.set i x } ∧ StepR g V R L V R L w w' := by
  have c3 := H.q.c3
  obtain ⟨rb, hR, fc, ff0⟩ := H.q.rootAt hi
  have ff := ff0 i
  have HT := Aside0.mk (rthere_calls H hL x)
  rw [hx] at HT
  have b1 : decide ((i : Int) < 0) = false := decide_eq_false (by omega)
  have b2 : decide ((h.roots.length : Int) ≤ (i : Int)) = false := decide_eq_false (by omega)
  have b3 : (i : Int) < (h.roots.length : Int) := by omega
  subst hR
  have hf : FrP (FootQ g (some ⟨rb, 0, none⟩) L) w (w.setCell ⟨rb, i, none⟩ (.int .i64 x)) := (FrP.ofFr (Fr.set w rb i (.int .i64 x))).mono (fun k _ hk => .inr (.inl (by
    have hk : k = rb := by simpa using hk
    rw [hk])))
  have HS := Aside0.mk (And.intro (H.after (H.q.setRoot hi x) hf (by show h.nx ≤ h.nx; omega)) (StepR.ofQ (V := V) hf (fun k hk => .inl hk)))
  unfold ptr
  unfold ptr at HT
  clear H ff0 hf hL
  go_enter Try.func53, Try.ntmps53
  go_wp2_with fail
  refine HT.out.mono ?_
  rintro e w1 ⟨rfl, rfl⟩
  go_wp2_with fail
  go_returns
  exact ⟨rfl, HS.out⟩
/-- A turning by the word is one by the place. -/
theorem upd_set {L : List OW} (hp : L.Pairwise fun x y => x.k ≠ y.k) {i : Nat} (hi : i < L.length) (f : PO → PO) : upd L L[i].k f = L.set i { L[i] with o := f L[i].o } := by
  unfold upd
  refine List.ext_getElem (by simp) fun j h1 h2 => ?_
  have hj : j < L.length := by simpa using h1
  rw [List.getElem_map, List.getElem_set]
  by_cases e : i = j
  · subst e; simp
  · rw [if_neg e, if_neg]
    have h3 := List.pairwise_iff_getElem.1 hp
    rcases Nat.lt_or_gt_of_ne e with h4 | h4
    · exact fun e' => h3 i j hi hj h4 e'.symm
    · exact h3 j i hj hi h4
theorem upd_len (L : List OW) (k : Int) (f : PO → PO) : (upd L k f).length = L.length := by simp [upd]
theorem upd_keys {L : List OW} {k : Int} {f : PO → PO} : (upd L k f).map OW.k = L.map OW.k := by
  unfold upd
  rw [List.map_map]
  refine List.map_congr_left fun y _ => ?_
  simp only [Function.comp]
  split <;> rfl
theorem upd_ts {L : List OW} {k : Int} {f : PO → PO} : ((upd L k f).map fun x => ptr x.t) = L.map fun x => ptr x.t := by
  unfold upd
  rw [List.map_map]
  refine List.map_congr_left fun y _ => ?_
  simp only [Function.comp]
  split <;> rfl
/-- One object of the heap turned in place. -/
theorem HR.upd (H : HR w g V R rc L h) {x : OW} (hx : x ∈ L) (f : PO → PO) (hlen : (f x.o).fs.length = x.o.fs.length) {T : Nat → Prop} (hf : FrP T w w') (hT : ∀ k, T k → k = x.t ∨ (x.o.fs ≠ [] ∧ k = x.fb))
    (hob : w'.heap[x.t]? = some ({ x with o := f x.o } : OW).robj) (hr : ({ x with o := f x.o } : OW).rowOk w') : HR w' g V R rc (upd L x.k f) h ∧ StepR g V R L V R (upd L x.k f) w w' := by
  obtain ⟨i, hi, rfl⟩ := List.mem_iff_getElem.1 hx
  have hq := H.q.upd hi { L[i] with o := f L[i].o } rfl rfl hlen hf hT hob hr
  rw [← upd_set H.keys hi f] at hq
  have hfq : FrP (FootQ g R L) w w' := hf.mono (fun k _ hk => .inr (.inr ⟨_, hx, hT k hk⟩))
  have hps : Ptrs w' V (Go.Proofs.Ytlghnldlkbgajaa.S.upd L L[i].k f) := by
    have := H.ps.foot H.q hfq
    unfold Ptrs at this ⊢
    rw [upd_ts, upd_len]
    exact this
  refine ⟨⟨hq, hps, ?_, fun y hy => ?_⟩, StepR.ofQ hfq fun k hk => ?_⟩
  · have := H.keys
    rw [← List.pairwise_map (f := OW.k) (R := fun a b => a ≠ b)] at this ⊢
    rw [upd_keys]; exact this
  · have : y.k ∈ (Go.Proofs.Ytlghnldlkbgajaa.S.upd L L[i].k f).map OW.k := List.mem_map.2 ⟨y, hy, rfl⟩
    rw [upd_keys] at this
    obtain ⟨z, hz, e⟩ := List.mem_map.1 this
    rw [← e]; exact H.low z hz
  · rcases hk with hk | hk | ⟨y, hy, hk⟩
    · exact .inl (.inl hk)
    · exact .inl (.inr (.inl hk))
    · obtain ⟨y0, h0, e1, e2, e3, e4, e5, h6⟩ := upd_mem hy
      refine .inl (.inr (.inr ⟨y0, h0, ?_⟩))
      rw [e2, e5]
      refine hk.imp id (fun e => ⟨?_, e.2⟩)
      rcases h6 with ⟨h7, h8⟩ | ⟨h7, h8⟩
      · have : y0 = L[i] := pw_eq OW.k H.keys h0 hx h7
        subst this
        have h9 := e.1
        rw [h8, ← List.length_pos_iff, hlen, List.length_pos_iff] at h9
        exact h9
      · rw [← h8]; exact e.1
theorem fieldF_at {x : OW} (hp : L.Pairwise fun x y => x.k ≠ y.k) (hx : x ∈ L) {i : Nat} (hi : i < x.o.fs.length) : fieldF L x.k i = (x.o.fs.getD i 0, 0) := by
  unfold fieldF
  cases hf : fnd L x.k with
  | none => exact absurd rfl (fnd_none hf x hx)
  | some y =>
    have : y = x := pw_eq OW.k hp (fnd_mem hf).1 hx (fnd_mem hf).2
    subst this
    simp only
    rw [if_neg (by omega), Int.toNat_natCast]
theorem fnd_at {x : OW} (hp : L.Pairwise fun x y => x.k ≠ y.k) (hx : x ∈ L) : fnd L x.k = some x := by
  cases hf : fnd L x.k with
  | none => exact absurd rfl (fnd_none hf x hx)
  | some y => rw [pw_eq OW.k hp (fnd_mem hf).1 hx (fnd_mem hf).2]
set_option maxRecDepth 100000 in
/-- Set, where there is no such field. -/
theorem rset_no (H : HR w g V R rc L h) (hL : L.length ≤ 1000000) (a i v : Int) (he : (fieldF L a i).2 ≠ 0) : Calls Try.prog 51 #[ptr g, .int .i64 a, .int .i64 i, .int .i64 v] w fun e w' => e = .returned (.int .i64 (fieldF L a i).2) ∧ w' = w := by
  have HF := Aside0.mk (rfield_calls H hL a i)
  generalize (fieldF L a i).1 = f1 at *
  generalize (fieldF L a i).2 = f2 at *
  have b1 : (f2 != 0) = true := by simpa using he
  have b2 : (f2 == 0) = false := by simpa using he
  clear H hL he
  unfold ptr at *
  go_enter Try.func51, Try.ntmps51
  go_wp2_with fail
  refine HF.out.mono ?_
  rintro e w1 ⟨rfl, rfl⟩
  clear HF
  go_wp2_with fail
  go_returns
  exact ⟨rfl, rfl⟩
set_option maxRecDepth 100000 in
theorem rset_word (H : HR w g V R rc L h) (hL : L.length ≤ 1000000) {x : OW} (hx : x ∈ L) {i : Nat} (hi : i < x.o.fs.length) {v : Int} (hv : thereB L v = false) : Calls Try.prog 51 #[ptr g, .int .i64 x.k, .int .i64 i, .int .i64 v] w fun e w' => e = .returned (.int .i64 141) ∧ w' = w := by
  have HF := Aside0.mk (rfield_calls H hL x.k i)
  have HT := Aside0.mk (rthere_calls H hL v)
  rw [hv] at HT
  rw [fieldF_at H.keys hx hi] at HF
  clear H hL hx hv
  generalize x.k = xk at *
  generalize x.o.fs.getD i 0 = f1 at *
  unfold ptr at *
  go_enter Try.func51, Try.ntmps51
  go_wp2_with fail
  refine HF.out.mono ?_
  rintro e w1 ⟨rfl, rfl⟩
  clear HF
  go_wp2_with fail
  refine HT.out.mono ?_
  rintro e w1 ⟨rfl, rfl⟩
  go_wp2_with fail
  go_returns
  exact ⟨rfl, rfl⟩
set_option maxRecDepth 100000 in
set_option maxHeartbeats 1000000 in
theorem rset_calls (H : HR w g V R rc L h) (hL : L.length ≤ 1000000) (hkp : ∀ y ∈ L, 0 < y.o.kind) {x : OW} (hx : x ∈ L) {i : Nat} (hi : i < x.o.fs.length) {v : Int} (hv : thereB L v = true) :
    Calls Try.prog 51 #[ptr g, .int .i64 x.k, .int .i64 i, .int .i64 v] w fun e w' => e = .returned (.int .i64 0) ∧ HR w' g V R rc (setL L x i v) h ∧ StepR g V R L V R (setL L x i v) w w' := by
  have HF := Aside0.mk (rfield_calls H hL x.k i)
  rw [fieldF_at H.keys hx hi] at HF
  have HT := Aside0.mk (rthere_calls H hL v)
  rw [hv] at HT
  have HFX := Aside0.mk (rfind_calls H hL x.k)
  rw [fnd_at H.keys hx] at HFX
  replace HFX : Aside0 (Calls Try.prog 62 #[ptr g, .int .i64 x.k] w fun e w' => e = .returned (ptr x.t) ∧ w' = w) := HFX
  have HFV := Aside0.mk (rfind_calls H hL v)
  have hne : x.o.fs ≠ [] := fun e => by rw [e] at hi; simp at hi
  obtain ⟨hA, hrow⟩ := H.q.row x hx hne
  have hob := H.q.ob x hx
  have o2 : w.cell? ⟨x.t, 2, none⟩ = some (.slice x.A x.o.fs.length x.c) := (blk_cell hob 2).trans rfl
  rw [hA] at o2
  have q0 := hrow.cell hi
  have qf := hrow.fz i
  have hil : (i : Int) < (x.o.fs.length : Int) := by omega
  have hfb := Fr.set w x.fb i (.int .i64 v)
  have hob1 := hfb.get hob (by simpa using H.q.ne_tf hx hx hne)
  have h1 := H.upd hx (fun o => o.set i v) (by simp [PO.set]) (T := (· ∈ [x.fb])) (FrP.ofFr hfb) (fun k hk => .inr ⟨hne, by simpa using hk⟩) (by rw [hob1]; simp [OW.robj, PO.set]) (fun _ => ⟨hA, hrow.set i v⟩)
  obtain ⟨w1, hw1⟩ : ∃ w1, w1 = w.setCell ⟨x.fb, i, none⟩ (.int .i64 v) := ⟨_, rfl⟩
  rw [← hw1] at h1 hob1
  have hx1 := upd_at hx (fun o => o.set i v)
  have H1 := Aside0.mk h1
  have HX1 := Aside0.mk hx1
  have o4 : w1.cell? ⟨x.t, 4, none⟩ = some (.bool x.o.old) := (blk_cell hob1 4).trans rfl
  have f5 : w1.frozen? ⟨x.t, 5, none⟩ = false := blk_frozen hob1 5
  have o5 : w1.cell? ⟨x.t, 5, none⟩ = some (.bool x.o.noted) := (blk_cell hob1 5).trans rfl
  have HKP := Aside0.mk hkp
  have HK := Aside0.mk H.keys
  have HOB := Aside0.mk (fun y (hy : y ∈ L) (hne : y ≠ x) => (show w1.cell? ⟨y.t, 4, none⟩ = some (.bool y.o.old) from by
    have h5 := h1.1.q.ob y (List.mem_map.2 ⟨y, hy, if_neg (fun e => hne (pw_eq OW.k H.keys hy hx e))⟩)
    exact (blk_cell h5 4).trans rfl))
  clear H hL hob hrow hfb hob1 h1 hx1 hkp hv
  unfold ptr
  unfold ptr at HF HT HFX HFV
  go_enter Try.func51, Try.ntmps51
  go_wp2_with fail
  refine HF.out.mono ?_
  rintro e w2 ⟨rfl, rfl⟩
  go_wp2_with fail
  refine HT.out.mono ?_
  rintro e w2 ⟨rfl, rfl⟩
  go_wp2_with fail
  refine HFX.out.mono ?_
  rintro e w2 ⟨rfl, rfl⟩
  go_wp2_with fail
  refine HFV.out.mono ?_
  rintro e w2 ⟨rfl, rfl⟩
  clear HF HT HFX HFV
  have hyB : youngB L v = match fnd L v with | some y => decide (0 < y.o.kind) && !y.o.old | none => false := rfl
  have HYB : Aside0 (youngB L v = match fnd L v with | some y => !y.o.old | none => false) := ⟨by
    rw [hyB]
    cases hf : fnd L v with
    | none => rfl
    | some y => simp only; rw [decide_eq_true (HKP.out y (fnd_mem hf).1), Bool.true_and]⟩
  clear hyB
  have hno : youngB L v = false ∨ x.o.old = false → HR w1 g V R rc (setL L x i v) h ∧ StepR g V R L V R (setL L x i v) w2 w1 := fun hh => by
    unfold setL
    rw [if_neg (by rcases hh with e | e <;> simp [e])]
    exact H1.out
  have HNO := Aside0.mk hno
  have hyes : youngB L v = true → x.o.old = true → HR (w1.setCell ⟨x.t, 5, none⟩ (.bool true)) g V R rc (setL L x i v) h ∧ StepR g V R L V R (setL L x i v) w2 (w1.setCell ⟨x.t, 5, none⟩ (.bool true)) := fun e1 e2 => by
    unfold setL
    rw [if_pos ⟨e2, e1⟩]
    have hf := Fr.set w1 x.t 5 (.bool true)
    have h5 := H1.out.1.upd HX1.out (fun o => { o with noted := true }) rfl (T := (· ∈ [x.t])) (FrP.ofFr hf) (fun k hk => .inl (by simpa using hk)) (blk_put (H1.out.1.q.ob _ HX1.out) 5 (.bool true) rfl) (fun hn => ((H1.out.1.q.row _ HX1.out).fr hf (fun hn2 => by simpa using (H1.out.1.q.ne_tf HX1.out HX1.out hn2).symm)) hn)
    exact ⟨h5.1, H1.out.2.trans h5.2⟩
  have HYES := Aside0.mk hyes
  clear hno hyes
  cases hf : fnd L v with
  | none =>
    have hyb : youngB L v = false := by rw [HYB.out, hf]
    have HN := Aside0.mk (HNO.out (.inl hyb))
    unfold fndV
    clear HNO HYES HYB hyb hf HX1 H1
    cases hold : x.o.old with
    | false =>
      rw [hold] at o4
      rw [hw1] at o4 o5 f5
      have HW1 := Aside0.mk hw1
      clear hw1
      go_wp2_with fail
      go_returns
      exact ⟨rfl, HW1.out ▸ HN.out⟩
    | true =>
      rw [hold] at o4
      rw [hw1] at o4 o5 f5
      have HW1 := Aside0.mk hw1
      clear hw1
      go_wp2_with fail
      go_returns
      exact ⟨rfl, HW1.out ▸ HN.out⟩
  | some y =>
    have hy := (fnd_mem hf).1
    have hyb : youngB L v = !y.o.old := by rw [HYB.out, hf]
    have y4 : w1.cell? ⟨y.t, 4, none⟩ = some (.bool y.o.old) := by
      by_cases e : y = x
      · rw [e]; exact o4
      · exact HOB.out y hy e
    unfold fndV ptr
    clear HYB hf HX1 H1 HOB hy
    cases hold : x.o.old with
    | false =>
      have HN := Aside0.mk (HNO.out (.inr hold))
      rw [hold] at o4
      clear HNO HYES hyb
      rw [hw1] at o4 o5 f5
      rw [hw1] at y4
      have HW1 := Aside0.mk hw1
      clear hw1
      go_wp2_with fail
      go_returns
      exact ⟨rfl, HW1.out ▸ HN.out⟩
    | true =>
      rw [hold] at o4
      cases hyo : y.o.old with
      | true =>
        have HN := Aside0.mk (HNO.out (.inl (by rw [hyb, hyo]; rfl)))
        rw [hyo] at y4
        clear HNO HYES hyb
        rw [hw1] at o4 o5 f5
        rw [hw1] at y4
        have HW1 := Aside0.mk hw1
        clear hw1
        go_wp2_with fail
        go_returns
        exact ⟨rfl, HW1.out ▸ HN.out⟩
      | false =>
        have HN := Aside0.mk (HYES.out (by rw [hyb, hyo]; rfl) hold)
        rw [hyo] at y4
        clear HNO HYES hyb
        rw [hw1] at o4 o5 f5
        rw [hw1] at y4
        have HW1 := Aside0.mk hw1
        clear hw1
        go_wp2_with fail
        go_returns
        exact ⟨rfl, HW1.out ▸ HN.out⟩
end
end Go.Proofs.Ytlghnldlkbgajaa.S
namespace Go.Proofs.Ytlghnldlkbgajaa.S
open Go.RowKit Go.Proofs.YtlghnldlkbgajaaW.PrintWords Go.Proofs.YtlghnldlkbgajaaW.PrintLast Go.Proofs.YtlghnldlkbgajaaW.PrintMore
set_option linter.unusedVariables false
set_option linter.unusedSimpArgs false

/-- append of a row of words. -/
theorem append_from {w : World} {R : Option Addr} {rc : Nat} {n : Nat} {l m : List Int} (hown : w.ownsRow 0 28 1 (.slice R n rc) n (l.map (Value.int .i64))) {A : Option Addr} {c : Nat} (hne : m ≠ [] → ∃ ad, A = some ad ∧ ∀ j, j < m.length → w.cell? (ad.add j) = some (.int .i64 (m.getD j 0))) (h63 : n + m.length ≤ 1000000000) :
    ∃ R' rc' w', (∀ ty, (Builtin.append_ #[33, 33] ty #[.slice R n rc, .slice A m.length c]).run Try.prog w = .ok (.slice R' (n + m.length) rc') w') ∧ w'.ownsRow 0 28 1 (.slice R' (n + m.length) rc') (n + m.length) ((l ++ m).map (Value.int .i64)) ∧ FrP (fun k => R = some ⟨k, 0, none⟩) w w' ∧
      ∀ k, R' = some ⟨k, 0, none⟩ → R = some ⟨k, 0, none⟩ ∨ w.heap.size ≤ k := by
  obtain ⟨i0, hi, hz0, hz1, hz2⟩ := info_parts word_info
  by_cases hm : m = []
  · subst hm
    exact ⟨R, rc, w, fun ty => append_zero 0 33 ty 28 i0 1 Try.underlying33 hi _ n _ hown A c, by simpa using hown, FrP.refl _ _, fun k hk => .inl hk⟩
  · obtain ⟨ad, rfl, hrow⟩ := hne hm
    have hml : 0 < m.length := List.length_pos_iff.2 hm
    have hnews : ∀ j u, (m.map (Value.int .i64))[j]? = some u → w.cell? (ad.add j) = some u := fun j u hj => by
      have hjn : j < m.length := by
        have := (List.getElem?_eq_some_iff.1 hj).1
        simpa using this
      rw [hrow j hjn]
      have e : (m.map (Value.int .i64))[j]? = some (Value.int .i64 (m.getD j 0)) := by simp [List.getD, List.getElem?_eq_getElem (show j < m.length by omega)]
      rw [e] at hj
      exact hj
    have hone : ∀ u ∈ m.map (Value.int .i64), u.oneCell' = true := fun u hu => by obtain ⟨x, _, rfl⟩ := List.mem_map.1 hu; rfl
    obtain ⟨v', w', h1, h2, h3, -⟩ := run_append_own (P := Try.prog) w 0 33 33 28 i0 (.int .i64 0) 1 8 Try.underlying33 hi hz0 hz1 hz2 rfl (by decide) (.slice R n rc) n (l.map (Value.int .i64)) hown ad m.length c (m.map (Value.int .i64)) (by simp) hnews hone (by unfold maxLen; omega) (by omega) (Nat.zero_le _)
    have hblk : ∃ R' rc', v' = .slice R' (n + m.length) rc' ∧ ∀ k, R' = some ⟨k, 0, none⟩ → R = some ⟨k, 0, none⟩ ∨ w.heap.size ≤ k := by
      rcases hown.2 with ⟨hv, hn0⟩ | ⟨g, cap, cur, hv, hbg, hg, hnc, hcm, hcs, htake⟩
      · rw [hv] at h1
        have hr := run_append_nil (P := Try.prog) w 33 33 28 i0 (.int .i64 0) Try.underlying33 hi hz0 ad m.length c (m.map (Value.int .i64)) (by rw [hz1]; simp) hnews (by omega) (by omega) (by rw [hz2]; omega)
        rw [hr] at h1
        have h1 := (Result.ok.inj h1).1
        subst hn0
        exact ⟨some ⟨w.heap.size, 0, none⟩, grownCap w m.length 0 28, by rw [← h1]; simp, fun k hk => by
          have : w.heap.size = k := by simpa using hk
          exact .inr (by omega)⟩
      · have hv' := hv
        simp only [Value.slice.injEq] at hv'
        obtain ⟨rfl, -, rfl⟩ := hv'
        by_cases hroom : n + m.length ≤ rc
        · have hr := run_append_room (P := Try.prog) w 33 33 28 i0 Try.underlying33 hi g n rc cur hg ad m.length c (m.map (Value.int .i64)) (by rw [hz1]; simp) hnews hone hroom (by rw [hz1]; simp; omega)
          rw [hr] at h1
          have h1 := (Result.ok.inj h1).1
          exact ⟨_, _, h1.symm, fun k hk => .inl hk⟩
        · have holds : ∀ j u, (l.map (Value.int .i64))[j]? = some u → w.cell? ((⟨g, 0, none⟩ : Addr).add j) = some u := hown.cells (g := g) rfl
          have hr := run_append_grow (P := Try.prog) w 33 33 28 i0 (.int .i64 0) Try.underlying33 hi hz0 ⟨g, 0, none⟩ n rc (l.map (Value.int .i64)) (by rw [hz1]; exact hown.1) holds ad m.length c (m.map (Value.int .i64)) (by rw [hz1]; simp) hnews (by omega) (by omega) (growslice_fits (by omega) (by rw [hz2]; omega))
          rw [hr] at h1
          have h1 := (Result.ok.inj h1).1
          exact ⟨_, _, h1.symm, fun k hk => by
            have : w.heap.size = k := by simpa using hk
            exact .inr (by omega)⟩
    obtain ⟨R', rc', rfl, hblk⟩ := hblk
    refine ⟨R', rc', w', fun ty => h1, by rw [List.map_append]; exact h2, ⟨h3.os, h3.tape, h3.output, h3.size, fun k hk hT => h3.block k hk (fun e => hT ?_)⟩, hblk⟩
    rcases hown.2 with ⟨hv, -⟩ | ⟨g, cap, cur, hv, -⟩
    · rw [hv] at e; cases e
    · rw [hv] at e
      have e : k = g := by simpa [Value.ownBlock] using e
      simp only [Value.slice.injEq] at hv
      rw [hv.1, e]
theorem ptr_info : (Try.prog.info? 105).map (fun i => (i.zero, i.size, i.bytes)) = some (some (.pointer none), 1, 8) := by kernel_rfl
/-- append of one pointer. -/
theorem append_ptrW {w : World} {R : Option Addr} {rc : Nat} {n : Nat} {l : List Nat} {t : Nat} (hown : w.ownsRow 0 105 1 (.slice R n rc) n (l.map ptr)) {q c : Nat} (hq : w.cell? ⟨q, 0, none⟩ = some (ptr t)) (h63 : n + 1 ≤ 1000000000) :
    ∃ R' rc' w', (∀ ty, (Builtin.append_ #[81, 81] ty #[.slice R n rc, .slice (some ⟨q, 0, none⟩) 1 c]).run Try.prog w = .ok (.slice R' (n + 1) rc') w') ∧ w'.ownsRow 0 105 1 (.slice R' (n + 1) rc') (n + 1) ((l ++ [t]).map ptr) ∧ FrP (fun k => R = some ⟨k, 0, none⟩) w w' ∧
      ∀ k, R' = some ⟨k, 0, none⟩ → R = some ⟨k, 0, none⟩ ∨ w.heap.size ≤ k := by
  obtain ⟨i0, hi, hz0, hz1, hz2⟩ := info_parts ptr_info
  have hnews : ∀ j u, ([t].map ptr)[j]? = some u → w.cell? ((⟨q, 0, none⟩ : Addr).add j) = some u := fun j u hj => by
    have hjn : j < 1 := by
      have := (List.getElem?_eq_some_iff.1 hj).1
      simpa using this
    obtain rfl : j = 0 := by omega
    rw [show (⟨q, 0, none⟩ : Addr).add 0 = ⟨q, 0, none⟩ from rfl, hq]
    exact hj
  have hone : ∀ u ∈ [t].map ptr, u.oneCell' = true := fun u hu => by obtain ⟨x, _, rfl⟩ := List.mem_map.1 hu; rfl
  obtain ⟨v', w', h1, h2, h3, -⟩ := run_append_own (P := Try.prog) w 0 81 81 105 i0 (.pointer none) 1 8 Try.underlying81 hi hz0 hz1 hz2 rfl (by decide) (.slice R n rc) n (l.map ptr) hown ⟨q, 0, none⟩ 1 c ([t].map ptr) (by simp) hnews hone (by unfold maxLen; omega) (by omega) (Nat.zero_le _)
  have hblk : ∃ R' rc', v' = .slice R' (n + 1) rc' ∧ ∀ k, R' = some ⟨k, 0, none⟩ → R = some ⟨k, 0, none⟩ ∨ w.heap.size ≤ k := by
    rcases hown.2 with ⟨hv, hn0⟩ | ⟨g, cap, cur, hv, hbg, hg, hnc, hcm, hcs, htake⟩
    · rw [hv] at h1
      have hr := run_append_nil (P := Try.prog) w 81 81 105 i0 (.pointer none) Try.underlying81 hi hz0 ⟨q, 0, none⟩ 1 c ([t].map ptr) (by rw [hz1]; simp) hnews (by omega) (by omega) (by rw [hz2]; omega)
      rw [hr] at h1
      have h1 := (Result.ok.inj h1).1
      subst hn0
      exact ⟨some ⟨w.heap.size, 0, none⟩, grownCap w 1 0 105, by rw [← h1], fun k hk => by
        have : w.heap.size = k := by simpa using hk
        exact .inr (by omega)⟩
    · have hv' := hv
      simp only [Value.slice.injEq] at hv'
      obtain ⟨rfl, -, rfl⟩ := hv'
      by_cases hroom : n + 1 ≤ rc
      · have hr := run_append_room (P := Try.prog) w 81 81 105 i0 Try.underlying81 hi g n rc cur hg ⟨q, 0, none⟩ 1 c ([t].map ptr) (by rw [hz1]; simp) hnews hone hroom (by rw [hz1]; simp; omega)
        rw [hr] at h1
        have h1 := (Result.ok.inj h1).1
        exact ⟨_, _, h1.symm, fun k hk => .inl hk⟩
      · have holds : ∀ j u, (l.map ptr)[j]? = some u → w.cell? ((⟨g, 0, none⟩ : Addr).add j) = some u := hown.cells (g := g) rfl
        have hr := run_append_grow (P := Try.prog) w 81 81 105 i0 (.pointer none) Try.underlying81 hi hz0 ⟨g, 0, none⟩ n rc (l.map ptr) (by rw [hz1]; exact hown.1) holds ⟨q, 0, none⟩ 1 c ([t].map ptr) (by rw [hz1]; simp) hnews (by omega) (by omega) (growslice_fits (by omega) (by rw [hz2]; omega))
        rw [hr] at h1
        have h1 := (Result.ok.inj h1).1
        exact ⟨_, _, h1.symm, fun k hk => by
          have : w.heap.size = k := by simpa using hk
          exact .inr (by omega)⟩
  obtain ⟨R', rc', rfl, hblk⟩ := hblk
  refine ⟨R', rc', w', fun ty => h1, by rw [List.map_append]; exact h2, ⟨h3.os, h3.tape, h3.output, h3.size, fun k hk hT => h3.block k hk (fun e => hT ?_)⟩, hblk⟩
  rcases hown.2 with ⟨hv, -⟩ | ⟨g, cap, cur, hv, -⟩
  · rw [hv] at e; cases e
  · rw [hv] at e
    have e : k = g := by simpa [Value.ownBlock] using e
    simp only [Value.slice.injEq] at hv
    rw [hv.1, e]
theorem append_ptr {w : World} {R : Option Addr} {rc : Nat} {S : List OW} (x : OW) (hp : Ptrs w (.slice R S.length rc) S) {q c : Nat} (hq : w.cell? ⟨q, 0, none⟩ = some (ptr x.t)) (h63 : S.length + 1 ≤ 1000000000) :
    ∃ R' rc' w', (∀ ty, (Builtin.append_ #[81, 81] ty #[.slice R S.length rc, .slice (some ⟨q, 0, none⟩) 1 c]).run Try.prog w = .ok (.slice R' (S.length + 1) rc') w') ∧ Ptrs w' (.slice R' (S.length + 1) rc') (S ++ [x]) ∧ FrP (fun k => R = some ⟨k, 0, none⟩) w w' ∧
      ∀ k, R' = some ⟨k, 0, none⟩ → R = some ⟨k, 0, none⟩ ∨ w.heap.size ≤ k := by
  have hp' : w.ownsRow 0 105 1 (.slice R S.length rc) S.length ((S.map (·.t)).map ptr) := by rw [List.map_map]; exact hp
  obtain ⟨R', rc', w', h1, h2, h3, h4⟩ := append_ptrW (t := x.t) hp' (c := c) hq h63
  refine ⟨R', rc', w', h1, ?_, h3, h4⟩
  unfold Ptrs
  rw [List.length_append, List.length_singleton, List.map_append]
  rw [List.map_append, List.map_map] at h2
  exact h2
end Go.Proofs.Ytlghnldlkbgajaa.S
