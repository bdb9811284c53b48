
/- heap: the laws' own functions: does, Set and SetRoot. -/
import Derived.Test.YtlghnldlkbgajaaHLw5
namespace Go.Proofs.Ytlghnldlkbgajaa.S
open Go.RowKit Go.Proofs.YtlghnldlkbgajaaW.PrintWords Go.Proofs.YtlghnldlkbgajaaW.PrintLast Go.Proofs.YtlghnldlkbgajaaW.PrintMore
set_option linter.unusedVariables false
set_option linter.unusedSimpArgs false
section
variable {w0 w w' : World} {K : List Nat} {p g gx : Nat} {L : List OW} {h : HH} {M : List OW} {k : RS} {ρ : Int → Int → Prop} {n : Nat}
set_option maxRecDepth 100000 in
set_option maxHeartbeats 4000000 in
theorem does_set (P : PM w0 w K g gx L h M k) (s : Sim ρ L h M k) (bd : Bnd n L h M k) (hn : n ≤ 900) (hpr : PrAt w p g gx) (hpK : p ∈ K) {A : Option Addr} {c : Nat} {xs : List Int} (hxs : IntsAt w A xs) (hxl : xs.length ≤ 10000000) (op kd ix : Int) (tx : ByteArray) (htx : tx.size ≤ 1000000000) (hr : (IntKind.u64.wrap op).tmod 9 = 4) :
    Calls Try.prog 25 #[ptr p, .agg #[.int .i64 op, .int .i64 kd, .int .i64 ix, .slice A xs.length c, .string tx]] w (DoesOk w0 w K g gx n) := by
  have hb0 : Below w.heap.size w (w.alloc (.cells #[.int .i64 op, .int .i64 kd, .int .i64 ix, .slice A xs.length c, .string tx] 59)) := (Below.refl _ _).alloc (Nat.le_refl _) _
  have hbox0 := heap_alloc_new w (.cells #[.int .i64 op, .int .i64 kd, .int .i64 ix, .slice A xs.length c, .string tx] 59)
  have HWD := Aside0.mk (words_calls (c := c) (P.new hb0) s (by have := bd.rl; omega) (hpr.new hb0) (hxs.new hb0) hxl)
  have HP := Aside0.mk P
  have HSB := Aside0.mk (And.intro s bd)
  have HPR := Aside0.mk (And.intro hpr hpK)
  have HB0 := Aside0.mk (And.intro hb0 hbox0)
  have HR := Aside0.mk hr
  unfold ptr
  unfold ptr at HWD
  clear P s hpr hpK hb0 hbox0 hr hxs
  go_enter Try.func25, Try.ntmps25
  go_wp2_with fail
  refine HWD.out.mono ?_
  rintro e w2 ⟨A1, c1, A2, c2, a, b, rfl, hab, hal, ho1, ho2, hb2⟩
  have hbA := HB0.out.1.trans (Below.mono hb2 HB0.out.1.size)
  have hPw := HP.out.new hbA
  have hprw := HPR.out.1.new hbA
  have HD := Aside0.mk (word_calls hPw HSB.out.1 (by have := bd.rl; omega) hprw ix)
  have hbx2 := (FrP.ofBelow hb2).get HB0.out.2 (by simp)
  have k2 : w2.cell? ⟨w.heap.size, 2, none⟩ = some (.int .i64 ix) := (blk_cell hbx2 2).trans rfl
  have H2 := Aside0.mk (show Below w.heap.size w w2 ∧ w2.heap[w.heap.size]? = some (.cells #[.int .i64 op, .int .i64 kd, .int .i64 ix, .slice A xs.length c, .string tx] 59 (0, 0)) from ⟨hbA, hbx2⟩)
  have HO := Aside0.mk (And.intro (And.intro ho1 ho2) hab)
  unfold ptr at HD
  have HAL0 := Aside0.mk hal
  clear hbA hPw hprw hbx2 ho1 ho2 hb2 hab hal HWD
  go_wp2_with fail
  refine HD.out.mono ?_
  rintro e w3 ⟨u, v, rfl, huv, hf3⟩
  have hb3 : Below w.heap.size w w3 := H2.out.1.trans ((FrP.ofFr hf3).below H2.out.1.size (fun i hi => by simp at hi))
  have ho1 := HO.out.1.1.frp (FrP.ofFr hf3) (fun k _ => by simp)
  have ho2 := HO.out.1.2.frp (FrP.ofFr hf3) (fun k _ => by simp)
  have hsA := HB0.out.1.size
  have hbx3 := hf3.get H2.out.2 (by simp)
  have k0 : w3.cell? ⟨w.heap.size, 0, none⟩ = some (.int .i64 op) := (blk_cell hbx3 0).trans rfl
  obtain ⟨K1, hK1⟩ : ∃ K1, K1 = (w.heap.size :: (blks A1 ++ blks A2)) ++ K := ⟨_, rfl⟩
  have hP3 : PM w0 w3 K1 g gx L h M k := by
    rw [hK1]
    refine HP.out.guard hb3 _ (fun j hj => ?_)
    rcases List.mem_cons.1 hj with rfl | hj
    · exact ⟨Nat.le_refl _, blk_lt hbx3⟩
    · rcases List.mem_append.1 hj with hj | hj
      · have := ho1.blk j hj; exact ⟨by omega, this.2⟩
      · have := ho2.blk j hj; exact ⟨by omega, this.2⟩
  have hds : DS w0 w w3 K K1 p g gx w.heap.size op kd ix (.slice A xs.length c) tx :=
    ⟨fun j hj => by rw [hK1]; simp [hj], FrP.new hb3 _, HPR.out.1.new hb3, by rw [hK1]; simp [HPR.out.2], hbx3, by rw [hK1]; simp⟩
  have HO3 := Aside0.mk (show (OwnW w3 (w.alloc (.cells #[.int .i64 op, .int .i64 kd, .int .i64 ix, .slice A xs.length c, .string tx] 59)).heap.size A1 c1 a ∧ ∀ j ∈ blks A1, j ∈ K1) ∧ (OwnW w3 (w.alloc (.cells #[.int .i64 op, .int .i64 kd, .int .i64 ix, .slice A xs.length c, .string tx] 59)).heap.size A2 c2 b ∧ ∀ j ∈ blks A2, j ∈ K1) ∧ All2 (WX ρ) a b ∧ WX ρ u v from
    ⟨⟨ho1, fun j hj => by rw [hK1]; simp [hj]⟩, ⟨ho2, fun j hj => by rw [hK1]; simp [hj]⟩, HO.out.2, huv⟩)
  have HP3 := Aside0.mk hP3
  have HDS := Aside0.mk hds
  have HAL := Aside0.mk (And.intro HAL0.out HO.out.2.1)
  obtain ⟨b0, hb0⟩ : ∃ b0, b0 = w.heap.size := ⟨_, rfl⟩
  rw [← hb0] at k0 HDS ⊢
  clear hb3 ho1 ho2 hsA hbx3 hK1 hP3 hds huv hf3 HD HO H2 HB0 HP HPR hb0
  have hrr := HR.out
  have t0 : (wrap64 ((IntKind.u64.wrap op).tmod 9) == 0) = false := by rw [hrr, show wrap64 4 = 4 by unfold wrap64; omega]; decide
  have t1 : (wrap64 ((IntKind.u64.wrap op).tmod 9) == 1) = false := by rw [hrr, show wrap64 4 = 4 by unfold wrap64; omega]; decide
  have t2 : (wrap64 ((IntKind.u64.wrap op).tmod 9) == 2) = false := by rw [hrr, show wrap64 4 = 4 by unfold wrap64; omega]; decide
  have t3 : (wrap64 ((IntKind.u64.wrap op).tmod 9) == 3) = false := by rw [hrr, show wrap64 4 = 4 by unfold wrap64; omega]; decide
  have t4 : (wrap64 ((IntKind.u64.wrap op).tmod 9) == 4) = true := by rw [hrr, show wrap64 4 = 4 by unfold wrap64; omega]; decide
  clear hrr HR
  have hlen := HO3.out.2.2.1.1
  cases a with
  | nil =>
    cases b with
    | cons y0 b => simp at hlen
    | nil =>
      clear hlen
      go_wp2_with fail
      go_returns
      exact HDS.out.fin HP3.out HSB.out.1 HSB.out.2.up.up
  | cons x0 a =>
    cases b with
    | nil => simp at hlen
    | cons y0 b =>
      obtain ⟨q1, rfl, -⟩ := HO3.out.1.1.cell0
      obtain ⟨q2, rfl, -⟩ := HO3.out.2.1.1.cell0
      have HX0 := Aside0.mk (show WX ρ x0 y0 from HO3.out.2.2.1.2 0 (by simp))
      clear hlen
      go_wp2_with fail
      have hPd := HP3.out.fr0 (Fr.drew [] w3)
      have hsm := HSB.out.2.sm HSB.out.1 (by omega)
      have hrl := HSB.out.2.rl
      have hr2 := HSB.out.1.roots.1
      have HC1 := Aside0.mk (hPd.setL HSB.out.1 u tx.size x0)
      have HD3 := Aside0.mk (show (w3.drew.cell? ⟨p, 0, none⟩ = some (.pointer (some ⟨g, 0, none⟩)) ∧ w3.drew.cell? ⟨p, 1, none⟩ = some (.pointer (some ⟨gx, 0, none⟩)) ∧ w3.drew.cell? ⟨b0, 1, none⟩ = some (.int .i64 kd) ∧ w3.drew.cell? ⟨b0, 2, none⟩ = some (.int .i64 ix) ∧ w3.drew.cell? ⟨b0, 4, none⟩ = some (.string tx) ∧ w3.drew.cell? ⟨q1, 0, none⟩ = some (.int .i64 x0) ∧ w3.drew.cell? ⟨q2, 0, none⟩ = some (.int .i64 y0)) from ⟨HDS.out.drew.held.1, HDS.out.drew.held.2.1, HDS.out.drew.held.2.2.1, HDS.out.drew.held.2.2.2.1, HDS.out.drew.held.2.2.2.2, (HO3.out.1.1.gd (w0 := w0) HO3.out.1.2 ((FrP.ofFr (Fr.drew [] w3)).mono (fun k _ hk => by simp at hk))).cellq, (HO3.out.2.1.1.gd (w0 := w0) HO3.out.2.1.2 ((FrP.ofFr (Fr.drew [] w3)).mono (fun k _ hk => by simp at hk))).cellq⟩)
      have HBN := Aside0.mk (And.intro hrl hr2)
      unfold ptr at HC1
      clear hPd hsm hrl hr2 k0
      refine start_ (n := 26) (S := (fun w' => w'.cell? ⟨p, 0, none⟩ = some (.pointer (some ⟨g, 0, none⟩)) ∧ w'.cell? ⟨p, 1, none⟩ = some (.pointer (some ⟨gx, 0, none⟩)) ∧ w'.cell? ⟨b0, 1, none⟩ = some (.int .i64 kd) ∧ w'.cell? ⟨b0, 2, none⟩ = some (.int .i64 ix) ∧ w'.cell? ⟨b0, 4, none⟩ = some (.string tx) ∧ w'.cell? ⟨q1, 0, none⟩ = some (.int .i64 x0) ∧ w'.cell? ⟨q2, 0, none⟩ = some (.int .i64 y0))) (ds := []) #[false, false, false, false, false, false, false, false, false, false, false, false, false, false, false, false, false, false, false, false, false, false, false, false, false, false] (by kernel_rfl) rfl rfl HD3.out (fun hHeld => ?_)
      refine pure_ (i := 0) (N := some 109) (v := ?_) (a' := ?_) #[true, false, false, false, false, false, false, false, false, false, false, false, false, false, false, false, false, false, false, false, false, false, false, false, false, false] rfl rfl (by kernel_rfl) (fun _ _ _ h => h) (Or.inl ⟨by rfl, ?_⟩) ?_ ?_
      rotate_left
      · intro w'
        go_simp
        with_reducible rfl
      rotate_left
      · simp only [Act.put, List.setIfInBounds_toArray, List.set_cons_zero, List.set_cons_succ, i64_w, i32_w]
        rfl
      refine pure_ (i := 1) (N := some 110) (v := ?_) (a' := ?_) #[true, true, false, false, false, false, false, false, false, false, false, false, false, false, false, false, false, false, false, false, false, false, false, false, false, false] rfl rfl (by kernel_rfl) (fun _ _ _ h => h) (Or.inl ⟨by rfl, ?_⟩) ?_ ?_
      rotate_left
      · intro w'
        go_simp
        with_reducible rfl
      rotate_left
      · simp only [Act.put, List.setIfInBounds_toArray, List.set_cons_zero, List.set_cons_succ, i64_w, i32_w]
        rfl
      refine pure_ (i := 2) (N := some 111) (v := ?_) (a' := ?_) #[true, true, true, false, false, false, false, false, false, false, false, false, false, false, false, false, false, false, false, false, false, false, false, false, false, false] rfl rfl (by kernel_rfl) (fun _ _ _ h => h) (Or.inl ⟨by rfl, ?_⟩) ?_ ?_
      rotate_left
      · intro w'
        go_simp
        with_reducible rfl
      rotate_left
      · simp only [Act.put, List.setIfInBounds_toArray, List.set_cons_zero, List.set_cons_succ, i64_w, i32_w]
        rfl
      refine take_ (i := 3) (N := some 112) (v := ?_) (a' := ?_) #[true, true, true, true, false, false, false, false, false, false, false, false, false, false, false, false, false, false, false, false, false, false, false, false, false, false] rfl rfl (by kernel_rfl) (fun _ _ _ h => h) (Or.inl ⟨by rfl, ?_⟩) hHeld ?_ ?_
      rotate_left
      · rintro w' ⟨s0, s1, s2, s3, s4, s5, s6⟩
        go_simp
        with_reducible rfl
      rotate_left
      · simp only [Act.put, List.setIfInBounds_toArray, List.set_cons_zero, List.set_cons_succ, i64_w, i32_w]
        rfl
      refine pure_ (i := 4) (N := some 113) (v := ?_) (a' := ?_) #[true, true, true, true, true, false, false, false, false, false, false, false, false, false, false, false, false, false, false, false, false, false, false, false, false, false] rfl rfl (by kernel_rfl) (fun _ _ _ h => h) (Or.inl ⟨by rfl, ?_⟩) ?_ ?_
      rotate_left
      · intro w'
        go_simp
        with_reducible rfl
      rotate_left
      · simp only [Act.put, List.setIfInBounds_toArray, List.set_cons_zero, List.set_cons_succ, i64_w, i32_w]
        rfl
      refine pure_ (i := 5) (N := some 114) (v := ?_) (a' := ?_) #[true, true, true, true, true, true, false, false, false, false, false, false, false, false, false, false, false, false, false, false, false, false, false, false, false, false] rfl rfl (by kernel_rfl) (fun _ _ _ h => h) (Or.inl ⟨by rfl, ?_⟩) ?_ ?_
      rotate_left
      · intro w'
        go_simp
        with_reducible rfl
      rotate_left
      · simp only [Act.put, List.setIfInBounds_toArray, List.set_cons_zero, List.set_cons_succ, i64_w, i32_w]
        rfl
      refine take_ (i := 6) (N := some 115) (v := ?_) (a' := ?_) #[true, true, true, true, true, true, true, false, false, false, false, false, false, false, false, false, false, false, false, false, false, false, false, false, false, false] rfl rfl (by kernel_rfl) (fun _ _ _ h => h) (Or.inl ⟨by rfl, ?_⟩) hHeld ?_ ?_
      rotate_left
      · rintro w' ⟨s0, s1, s2, s3, s4, s5, s6⟩
        go_simp
        with_reducible rfl
      rotate_left
      · simp only [Act.put, List.setIfInBounds_toArray, List.set_cons_zero, List.set_cons_succ, i64_w, i32_w]
        rfl
      refine pure_ (i := 7) (N := some 116) (v := ?_) (a' := ?_) #[true, true, true, true, true, true, true, true, false, false, false, false, false, false, false, false, false, false, false, false, false, false, false, false, false, false] rfl rfl (by kernel_rfl) (fun _ _ _ h => h) (Or.inl ⟨by rfl, ?_⟩) ?_ ?_
      rotate_left
      · intro w'
        go_simp
        with_reducible rfl
      rotate_left
      · simp only [Act.put, List.setIfInBounds_toArray, List.set_cons_zero, List.set_cons_succ, i64_w, i32_w]
        rfl
      refine pure_ (i := 8) (N := some 117) (v := ?_) (a' := ?_) #[true, true, true, true, true, true, true, true, true, false, false, false, false, false, false, false, false, false, false, false, false, false, false, false, false, false] rfl rfl (by kernel_rfl) (fun _ _ _ h => h) (Or.inl ⟨by rfl, ?_⟩) ?_ ?_
      rotate_left
      · intro w'
        go_simp
        with_reducible rfl
      rotate_left
      · simp only [Act.put, List.setIfInBounds_toArray, List.set_cons_zero, List.set_cons_succ, i64_w, i32_w]
        rfl
      refine pure_ (i := 9) (N := some 118) (v := ?_) (a' := ?_) #[true, true, true, true, true, true, true, true, true, true, false, false, false, false, false, false, false, false, false, false, false, false, false, false, false, false] rfl rfl (by kernel_rfl) (fun _ _ _ h => h) (Or.inl ⟨by rfl, ?_⟩) ?_ ?_
      rotate_left
      · intro w'
        go_simp
        with_reducible rfl
      rotate_left
      · simp only [Act.put, List.setIfInBounds_toArray, List.set_cons_zero, List.set_cons_succ, i64_w, i32_w]
        rfl
      refine take_ (i := 10) (N := some 119) (v := ?_) (a' := ?_) #[true, true, true, true, true, true, true, true, true, true, true, false, false, false, false, false, false, false, false, false, false, false, false, false, false, false] rfl rfl (by kernel_rfl) (fun _ _ _ h => h) (Or.inl ⟨by rfl, ?_⟩) hHeld ?_ ?_
      rotate_left
      · rintro w' ⟨s0, s1, s2, s3, s4, s5, s6⟩
        go_simp
        with_reducible rfl
      rotate_left
      · simp only [Act.put, List.setIfInBounds_toArray, List.set_cons_zero, List.set_cons_succ, i64_w, i32_w]
        rfl
      refine pure_ (i := 12) (N := some 121) (v := ?_) (a' := ?_) #[true, true, true, true, true, true, true, true, true, true, true, false, true, false, false, false, false, false, false, false, false, false, false, false, false, false] rfl rfl (by kernel_rfl) (fun _ _ _ h => h) (Or.inl ⟨by rfl, ?_⟩) ?_ ?_
      rotate_left
      · intro w'
        go_simp
        with_reducible rfl
      rotate_left
      · simp only [Act.put, List.setIfInBounds_toArray, List.set_cons_zero, List.set_cons_succ, i64_w, i32_w]
        rfl
      refine pure_ (i := 13) (N := some 122) (v := ?_) (a' := ?_) #[true, true, true, true, true, true, true, true, true, true, true, false, true, true, false, false, false, false, false, false, false, false, false, false, false, false] rfl rfl (by kernel_rfl) (fun _ _ _ h => h) (Or.inl ⟨by rfl, ?_⟩) ?_ ?_
      rotate_left
      · intro w'
        go_simp
        with_reducible rfl
      rotate_left
      · simp only [Act.put, List.setIfInBounds_toArray, List.set_cons_zero, List.set_cons_succ, i64_w, i32_w]
        rfl
      refine pure_ (i := 14) (N := some 123) (v := ?_) (a' := ?_) #[true, true, true, true, true, true, true, true, true, true, true, false, true, true, true, false, false, false, false, false, false, false, false, false, false, false] rfl rfl (by kernel_rfl) (fun _ _ _ h => h) (Or.inl ⟨by rfl, ?_⟩) ?_ ?_
      rotate_left
      · intro w'
        go_simp
        with_reducible rfl
      rotate_left
      · simp only [Act.put, List.setIfInBounds_toArray, List.set_cons_zero, List.set_cons_succ, i64_w, i32_w]
        rfl
      refine take_ (i := 15) (N := some 124) (v := ?_) (a' := ?_) #[true, true, true, true, true, true, true, true, true, true, true, false, true, true, true, true, false, false, false, false, false, false, false, false, false, false] rfl rfl (by kernel_rfl) (fun _ _ _ h => h) (Or.inl ⟨by rfl, ?_⟩) hHeld ?_ ?_
      rotate_left
      · rintro w' ⟨s0, s1, s2, s3, s4, s5, s6⟩
        go_simp
        with_reducible rfl
      rotate_left
      · simp only [Act.put, List.setIfInBounds_toArray, List.set_cons_zero, List.set_cons_succ, i64_w, i32_w]
        rfl
      refine pure_ (i := 16) (N := some 125) (v := ?_) (a' := ?_) #[true, true, true, true, true, true, true, true, true, true, true, false, true, true, true, true, true, false, false, false, false, false, false, false, false, false] rfl rfl (by kernel_rfl) (fun _ _ _ h => h) (Or.inl ⟨by rfl, ?_⟩) ?_ ?_
      rotate_left
      · intro w'
        go_simp
        with_reducible rfl
      rotate_left
      · simp only [Act.put, List.setIfInBounds_toArray, List.set_cons_zero, List.set_cons_succ, i64_w, i32_w]
        rfl
      refine pure_ (i := 17) (N := some 126) (v := ?_) (a' := ?_) #[true, true, true, true, true, true, true, true, true, true, true, false, true, true, true, true, true, true, false, false, false, false, false, false, false, false] rfl rfl (by kernel_rfl) (fun _ _ _ h => h) (Or.inl ⟨by rfl, ?_⟩) ?_ ?_
      rotate_left
      · intro w'
        go_simp
        with_reducible rfl
      rotate_left
      · simp only [Act.put, List.setIfInBounds_toArray, List.set_cons_zero, List.set_cons_succ, i64_w, i32_w]
        rfl
      refine take_ (i := 18) (N := some 127) (v := ?_) (a' := ?_) #[true, true, true, true, true, true, true, true, true, true, true, false, true, true, true, true, true, true, true, false, false, false, false, false, false, false] rfl rfl (by kernel_rfl) (fun _ _ _ h => h) (Or.inl ⟨by rfl, ?_⟩) hHeld ?_ ?_
      rotate_left
      · rintro w' ⟨s0, s1, s2, s3, s4, s5, s6⟩
        go_simp
        with_reducible rfl
      rotate_left
      · simp only [Act.put, List.setIfInBounds_toArray, List.set_cons_zero, List.set_cons_succ, i64_w, i32_w]
        rfl
      refine pure_ (i := 19) (N := some 128) (v := ?_) (a' := ?_) #[true, true, true, true, true, true, true, true, true, true, true, false, true, true, true, true, true, true, true, true, false, false, false, false, false, false] rfl rfl (by kernel_rfl) (fun _ _ _ h => h) (Or.inl ⟨by rfl, ?_⟩) ?_ ?_
      rotate_left
      · intro w'
        go_simp
        with_reducible rfl
      rotate_left
      · simp only [Act.put, List.setIfInBounds_toArray, List.set_cons_zero, List.set_cons_succ, i64_w, i32_w]
        rfl
      refine pure_ (i := 20) (N := some 129) (v := ?_) (a' := ?_) #[true, true, true, true, true, true, true, true, true, true, true, false, true, true, true, true, true, true, true, true, true, false, false, false, false, false] rfl rfl (by kernel_rfl) (fun _ _ _ h => h) (Or.inl ⟨by rfl, ?_⟩) ?_ ?_
      rotate_left
      · intro w'
        go_simp
        with_reducible rfl
      rotate_left
      · simp only [Act.put, List.setIfInBounds_toArray, List.set_cons_zero, List.set_cons_succ, i64_w, i32_w]
        rfl
      refine pure_ (i := 21) (N := some 130) (v := ?_) (a' := ?_) #[true, true, true, true, true, true, true, true, true, true, true, false, true, true, true, true, true, true, true, true, true, true, false, false, false, false] rfl rfl (by kernel_rfl) (fun _ _ _ h => h) (Or.inl ⟨by rfl, ?_⟩) ?_ ?_
      rotate_left
      · intro w'
        go_simp
        with_reducible rfl
      rotate_left
      · simp only [Act.put, List.setIfInBounds_toArray, List.set_cons_zero, List.set_cons_succ, i64_w, i32_w]
        rfl
      refine take_ (i := 22) (N := some 131) (v := ?_) (a' := ?_) #[true, true, true, true, true, true, true, true, true, true, true, false, true, true, true, true, true, true, true, true, true, true, true, false, false, false] rfl rfl (by kernel_rfl) (fun _ _ _ h => h) (Or.inl ⟨by rfl, ?_⟩) hHeld ?_ ?_
      rotate_left
      · rintro w' ⟨s0, s1, s2, s3, s4, s5, s6⟩
        go_simp
        with_reducible rfl
      rotate_left
      · simp only [Act.put, List.setIfInBounds_toArray, List.set_cons_zero, List.set_cons_succ, i64_w, i32_w]
        rfl
      refine one_ (i := 11) (N := some 120) #[true, true, true, true, true, true, true, true, true, true, true, true, true, true, true, true, true, true, true, true, true, true, true, false, false, false] rfl rfl (by kernel_rfl) (by decide) (fun KK hK => ?_)
      refine goes_ Try.func28 (by kernel_rfl) rfl #[.pointer (some ⟨g, 0, none⟩), .int .i64 u, .int .i64 (tx.size : Int), .int .i64 x0] (by rfl) rfl rfl (by simp only [List.map_toArray, List.map_cons, List.map_nil]; rfl) ?_
      refine HC1.out.mono ?_
      rintro e w4 ⟨er1, L1, hp1, rfl, hm1, hf1⟩
      have hd4 := HDS.out.drew.step hf1
      refine ⟨_, rfl, ?_⟩
      refine hK.out _ _ ⟨hd4.held.1, hd4.held.2.1, hd4.held.2.2.1, hd4.held.2.2.2.1, hd4.held.2.2.2.2, (HO3.out.1.1.gd (w0 := w0) HO3.out.1.2 (((FrP.ofFr (Fr.drew [] w3)).mono (fun k _ hk => by simp at hk)).trans hf1)).cellq, (HO3.out.2.1.1.gd (w0 := w0) HO3.out.2.1.2 (((FrP.ofFr (Fr.drew [] w3)).mono (fun k _ hk => by simp at hk)).trans hf1)).cellq⟩ (fun hHeld => ?_)
      clear hK KK
      refine norm_ (a' := ?_) ?_ ?_
      rotate_left
      · show Act.put _ (some 120) _ = _
        simp only [Act.put, List.setIfInBounds_toArray, List.set_cons_zero, List.set_cons_succ, i64_w, i32_w]
        rfl
      have HC2 := Aside0.mk (hm1.setR (by have := HSB.out.2.lm; omega) HSB.out.1.kdM v tx.size y0)
      have H4 := Aside0.mk (And.intro hp1 (And.intro hm1 (And.intro hf1 hd4)))
      unfold ptr at HC2
      clear hp1 hm1 hf1 hd4 HC1
      refine one_ (i := 23) (N := some 132) #[true, true, true, true, true, true, true, true, true, true, true, true, true, true, true, true, true, true, true, true, true, true, true, true, false, false] rfl rfl (by kernel_rfl) (by decide) (fun KK hK => ?_)
      refine goes_ Try.func51 (by kernel_rfl) rfl #[.pointer (some ⟨gx, 0, none⟩), .int .i64 v, .int .i64 (tx.size : Int), .int .i64 y0] (by rfl) rfl rfl (by simp only [List.map_toArray, List.map_cons, List.map_nil]; rfl) ?_
      refine HC2.out.mono ?_
      rintro e w5 ⟨er2, M2, hp2, rfl, hm2, hf2⟩
      have hd5 := H4.out.2.2.2.step hf2
      have hsi := HSB.out.1.setS HO3.out.2.2.2 HX0.out H4.out.1 hp2
      have hbb := HSB.out.2.setB H4.out.1 hp2
      obtain ⟨rfl, hsi⟩ := hsi
      have hsi := And.intro hsi hbb
      refine ⟨_, rfl, ?_⟩
      refine hK.out _ _ ⟨hd5.held.1, hd5.held.2.1, hd5.held.2.2.1, hd5.held.2.2.2.1, hd5.held.2.2.2.2, (HO3.out.1.1.gd (w0 := w0) HO3.out.1.2 (((FrP.ofFr (Fr.drew [] w3)).mono (fun k _ hk => by simp at hk)).trans (H4.out.2.2.1.trans hf2))).cellq, (HO3.out.2.1.1.gd (w0 := w0) HO3.out.2.1.2 (((FrP.ofFr (Fr.drew [] w3)).mono (fun k _ hk => by simp at hk)).trans (H4.out.2.2.1.trans hf2))).cellq⟩ (fun hHeld => ?_)
      clear hK KK
      refine norm_ (a' := ?_) ?_ ?_
      rotate_left
      · show Act.put _ (some 132) _ = _
        simp only [Act.put, List.setIfInBounds_toArray, List.set_cons_zero, List.set_cons_succ, i64_w, i32_w]
        rfl
      have H5 := Aside0.mk (And.intro hm2 (And.intro hd5 hsi))
      clear hp2 hm2 hf2 hd5 hsi HC2
      refine pure_ (i := 24) (N := some 133) (v := ?_) (a' := ?_) #[true, true, true, true, true, true, true, true, true, true, true, true, true, true, true, true, true, true, true, true, true, true, true, true, true, false] rfl rfl (by kernel_rfl) (fun _ _ _ h => h) (Or.inl ⟨by rfl, ?_⟩) ?_ ?_
      rotate_left
      · intro w'
        go_simp
        with_reducible rfl
      rotate_left
      · simp only [Act.put, List.setIfInBounds_toArray, List.set_cons_zero, List.set_cons_succ, i64_w, i32_w]
        rfl
      refine pure_ (i := 25) (N := some 4) (v := ?_) (a' := ?_) #[true, true, true, true, true, true, true, true, true, true, true, true, true, true, true, true, true, true, true, true, true, true, true, true, true, true] rfl rfl (by kernel_rfl) (fun _ _ _ h => h) (Or.inl ⟨by rfl, ?_⟩) ?_ ?_
      rotate_left
      · intro w'
        go_simp
        with_reducible rfl
      rotate_left
      · simp only [Act.put, List.setIfInBounds_toArray, List.set_cons_zero, List.set_cons_succ, i64_w, i32_w]
        rfl
      refine done_ (by kernel_rfl) ?_
      go_wp2_with fail
      go_returns
      obtain ⟨hm5, hd5, hs5, hb5⟩ := H5.out
      have := hd5.fin hm5 hs5 hb5.up.up
      simpa using this
set_option maxRecDepth 100000 in
set_option maxHeartbeats 4000000 in
theorem does_setroot (P : PM w0 w K g gx L h M k) (s : Sim ρ L h M k) (bd : Bnd n L h M k) (hn : n ≤ 900) (hpr : PrAt w p g gx) (hpK : p ∈ K) {A : Option Addr} {c : Nat} {xs : List Int} (hxs : IntsAt w A xs) (hxl : xs.length ≤ 10000000) (op kd ix : Int) (tx : ByteArray) (htx : tx.size ≤ 1000000000) (hr : (IntKind.u64.wrap op).tmod 9 = 8) :
    Calls Try.prog 25 #[ptr p, .agg #[.int .i64 op, .int .i64 kd, .int .i64 ix, .slice A xs.length c, .string tx]] w (DoesOk w0 w K g gx n) := by
  have hb0 : Below w.heap.size w (w.alloc (.cells #[.int .i64 op, .int .i64 kd, .int .i64 ix, .slice A xs.length c, .string tx] 59)) := (Below.refl _ _).alloc (Nat.le_refl _) _
  have hbox0 := heap_alloc_new w (.cells #[.int .i64 op, .int .i64 kd, .int .i64 ix, .slice A xs.length c, .string tx] 59)
  have HWD := Aside0.mk (words_calls (c := c) (P.new hb0) s (by have := bd.rl; omega) (hpr.new hb0) (hxs.new hb0) hxl)
  have HP := Aside0.mk P
  have HSB := Aside0.mk (And.intro s bd)
  have HPR := Aside0.mk (And.intro hpr hpK)
  have HB0 := Aside0.mk (And.intro hb0 hbox0)
  have HR := Aside0.mk hr
  unfold ptr
  unfold ptr at HWD
  clear P s hpr hpK hb0 hbox0 hr hxs
  go_enter Try.func25, Try.ntmps25
  go_wp2_with fail
  refine HWD.out.mono ?_
  rintro e w2 ⟨A1, c1, A2, c2, a, b, rfl, hab, hal, ho1, ho2, hb2⟩
  have hbA := HB0.out.1.trans (Below.mono hb2 HB0.out.1.size)
  have hPw := HP.out.new hbA
  have hprw := HPR.out.1.new hbA
  have HD := Aside0.mk (word_calls hPw HSB.out.1 (by have := bd.rl; omega) hprw ix)
  have hbx2 := (FrP.ofBelow hb2).get HB0.out.2 (by simp)
  have k2 : w2.cell? ⟨w.heap.size, 2, none⟩ = some (.int .i64 ix) := (blk_cell hbx2 2).trans rfl
  have H2 := Aside0.mk (show Below w.heap.size w w2 ∧ w2.heap[w.heap.size]? = some (.cells #[.int .i64 op, .int .i64 kd, .int .i64 ix, .slice A xs.length c, .string tx] 59 (0, 0)) from ⟨hbA, hbx2⟩)
  have HO := Aside0.mk (And.intro (And.intro ho1 ho2) hab)
  unfold ptr at HD
  have HAL0 := Aside0.mk hal
  clear hbA hPw hprw hbx2 ho1 ho2 hb2 hab hal HWD
  go_wp2_with fail
  refine HD.out.mono ?_
  rintro e w3 ⟨u, v, rfl, huv, hf3⟩
  have hb3 : Below w.heap.size w w3 := H2.out.1.trans ((FrP.ofFr hf3).below H2.out.1.size (fun i hi => by simp at hi))
  have ho1 := HO.out.1.1.frp (FrP.ofFr hf3) (fun k _ => by simp)
  have ho2 := HO.out.1.2.frp (FrP.ofFr hf3) (fun k _ => by simp)
  have hsA := HB0.out.1.size
  have hbx3 := hf3.get H2.out.2 (by simp)
  have k0 : w3.cell? ⟨w.heap.size, 0, none⟩ = some (.int .i64 op) := (blk_cell hbx3 0).trans rfl
  obtain ⟨K1, hK1⟩ : ∃ K1, K1 = (w.heap.size :: (blks A1 ++ blks A2)) ++ K := ⟨_, rfl⟩
  have hP3 : PM w0 w3 K1 g gx L h M k := by
    rw [hK1]
    refine HP.out.guard hb3 _ (fun j hj => ?_)
    rcases List.mem_cons.1 hj with rfl | hj
    · exact ⟨Nat.le_refl _, blk_lt hbx3⟩
    · rcases List.mem_append.1 hj with hj | hj
      · have := ho1.blk j hj; exact ⟨by omega, this.2⟩
      · have := ho2.blk j hj; exact ⟨by omega, this.2⟩
  have hds : DS w0 w w3 K K1 p g gx w.heap.size op kd ix (.slice A xs.length c) tx :=
    ⟨fun j hj => by rw [hK1]; simp [hj], FrP.new hb3 _, HPR.out.1.new hb3, by rw [hK1]; simp [HPR.out.2], hbx3, by rw [hK1]; simp⟩
  have HO3 := Aside0.mk (show (OwnW w3 (w.alloc (.cells #[.int .i64 op, .int .i64 kd, .int .i64 ix, .slice A xs.length c, .string tx] 59)).heap.size A1 c1 a ∧ ∀ j ∈ blks A1, j ∈ K1) ∧ (OwnW w3 (w.alloc (.cells #[.int .i64 op, .int .i64 kd, .int .i64 ix, .slice A xs.length c, .string tx] 59)).heap.size A2 c2 b ∧ ∀ j ∈ blks A2, j ∈ K1) ∧ All2 (WX ρ) a b ∧ WX ρ u v from
    ⟨⟨ho1, fun j hj => by rw [hK1]; simp [hj]⟩, ⟨ho2, fun j hj => by rw [hK1]; simp [hj]⟩, HO.out.2, huv⟩)
  have HP3 := Aside0.mk hP3
  have HDS := Aside0.mk hds
  have HAL := Aside0.mk (And.intro HAL0.out HO.out.2.1)
  obtain ⟨b0, hb0⟩ : ∃ b0, b0 = w.heap.size := ⟨_, rfl⟩
  rw [← hb0] at k0 HDS ⊢
  clear hb3 ho1 ho2 hsA hbx3 hK1 hP3 hds huv hf3 HD HO H2 HB0 HP HPR hb0
  have hrr := HR.out
  have t0 : (wrap64 ((IntKind.u64.wrap op).tmod 9) == 0) = false := by rw [hrr, show wrap64 8 = 8 by unfold wrap64; omega]; decide
  have t1 : (wrap64 ((IntKind.u64.wrap op).tmod 9) == 1) = false := by rw [hrr, show wrap64 8 = 8 by unfold wrap64; omega]; decide
  have t2 : (wrap64 ((IntKind.u64.wrap op).tmod 9) == 2) = false := by rw [hrr, show wrap64 8 = 8 by unfold wrap64; omega]; decide
  have t3 : (wrap64 ((IntKind.u64.wrap op).tmod 9) == 3) = false := by rw [hrr, show wrap64 8 = 8 by unfold wrap64; omega]; decide
  have t4 : (wrap64 ((IntKind.u64.wrap op).tmod 9) == 4) = false := by rw [hrr, show wrap64 8 = 8 by unfold wrap64; omega]; decide
  have t5 : (wrap64 ((IntKind.u64.wrap op).tmod 9) == 5) = false := by rw [hrr, show wrap64 8 = 8 by unfold wrap64; omega]; decide
  have t6 : (wrap64 ((IntKind.u64.wrap op).tmod 9) == 6) = false := by rw [hrr, show wrap64 8 = 8 by unfold wrap64; omega]; decide
  have t7 : (wrap64 ((IntKind.u64.wrap op).tmod 9) == 7) = false := by rw [hrr, show wrap64 8 = 8 by unfold wrap64; omega]; decide
  have t8 : (wrap64 ((IntKind.u64.wrap op).tmod 9) == 8) = true := by rw [hrr, show wrap64 8 = 8 by unfold wrap64; omega]; decide
  clear hrr HR
  have hlen := HO3.out.2.2.1.1
  cases a with
  | nil =>
    cases b with
    | cons y0 b => simp at hlen
    | nil =>
      clear hlen
      go_wp2_with fail
      go_returns
      exact HDS.out.fin HP3.out HSB.out.1 HSB.out.2.up.up
  | cons x0 a =>
    cases b with
    | nil => simp at hlen
    | cons y0 b =>
      obtain ⟨q1, rfl, -⟩ := HO3.out.1.1.cell0
      obtain ⟨q2, rfl, -⟩ := HO3.out.2.1.1.cell0
      have HX0 := Aside0.mk (show WX ρ x0 y0 from HO3.out.2.2.1.2 0 (by simp))
      clear hlen
      go_wp2_with fail
      have hPd := HP3.out.fr0 (Fr.drew [] w3)
      have hsm := HSB.out.2.sm HSB.out.1 (by omega)
      have hrl := HSB.out.2.rl
      have hr2 := HSB.out.1.roots.1
      have HC1 := Aside0.mk (hPd.setrootL1 ix x0)
      have HD3 := Aside0.mk (show (w3.drew.cell? ⟨p, 0, none⟩ = some (.pointer (some ⟨g, 0, none⟩)) ∧ w3.drew.cell? ⟨p, 1, none⟩ = some (.pointer (some ⟨gx, 0, none⟩)) ∧ w3.drew.cell? ⟨b0, 1, none⟩ = some (.int .i64 kd) ∧ w3.drew.cell? ⟨b0, 2, none⟩ = some (.int .i64 ix) ∧ w3.drew.cell? ⟨b0, 4, none⟩ = some (.string tx) ∧ w3.drew.cell? ⟨q1, 0, none⟩ = some (.int .i64 x0) ∧ w3.drew.cell? ⟨q2, 0, none⟩ = some (.int .i64 y0)) from ⟨HDS.out.drew.held.1, HDS.out.drew.held.2.1, HDS.out.drew.held.2.2.1, HDS.out.drew.held.2.2.2.1, HDS.out.drew.held.2.2.2.2, (HO3.out.1.1.gd (w0 := w0) HO3.out.1.2 ((FrP.ofFr (Fr.drew [] w3)).mono (fun k _ hk => by simp at hk))).cellq, (HO3.out.2.1.1.gd (w0 := w0) HO3.out.2.1.2 ((FrP.ofFr (Fr.drew [] w3)).mono (fun k _ hk => by simp at hk))).cellq⟩)
      have HBN := Aside0.mk (And.intro hrl hr2)
      unfold ptr at HC1
      clear hPd hsm hrl hr2 k0
      refine start_ (n := 22) (S := (fun w' => w'.cell? ⟨p, 0, none⟩ = some (.pointer (some ⟨g, 0, none⟩)) ∧ w'.cell? ⟨p, 1, none⟩ = some (.pointer (some ⟨gx, 0, none⟩)) ∧ w'.cell? ⟨b0, 1, none⟩ = some (.int .i64 kd) ∧ w'.cell? ⟨b0, 2, none⟩ = some (.int .i64 ix) ∧ w'.cell? ⟨b0, 4, none⟩ = some (.string tx) ∧ w'.cell? ⟨q1, 0, none⟩ = some (.int .i64 x0) ∧ w'.cell? ⟨q2, 0, none⟩ = some (.int .i64 y0))) (ds := []) #[false, false, false, false, false, false, false, false, false, false, false, false, false, false, false, false, false, false, false, false, false, false] (by kernel_rfl) rfl rfl HD3.out (fun hHeld => ?_)
      refine pure_ (i := 0) (N := some 207) (v := ?_) (a' := ?_) #[true, false, false, false, false, false, false, false, false, false, false, false, false, false, false, false, false, false, false, false, false, false] rfl rfl (by kernel_rfl) (fun _ _ _ h => h) (Or.inl ⟨by rfl, ?_⟩) ?_ ?_
      rotate_left
      · intro w'
        go_simp
        with_reducible rfl
      rotate_left
      · simp only [Act.put, List.setIfInBounds_toArray, List.set_cons_zero, List.set_cons_succ, i64_w, i32_w]
        rfl
      refine pure_ (i := 1) (N := some 208) (v := ?_) (a' := ?_) #[true, true, false, false, false, false, false, false, false, false, false, false, false, false, false, false, false, false, false, false, false, false] rfl rfl (by kernel_rfl) (fun _ _ _ h => h) (Or.inl ⟨by rfl, ?_⟩) ?_ ?_
      rotate_left
      · intro w'
        go_simp
        with_reducible rfl
      rotate_left
      · simp only [Act.put, List.setIfInBounds_toArray, List.set_cons_zero, List.set_cons_succ, i64_w, i32_w]
        rfl
      refine pure_ (i := 2) (N := some 209) (v := ?_) (a' := ?_) #[true, true, true, false, false, false, false, false, false, false, false, false, false, false, false, false, false, false, false, false, false, false] rfl rfl (by kernel_rfl) (fun _ _ _ h => h) (Or.inl ⟨by rfl, ?_⟩) ?_ ?_
      rotate_left
      · intro w'
        go_simp
        with_reducible rfl
      rotate_left
      · simp only [Act.put, List.setIfInBounds_toArray, List.set_cons_zero, List.set_cons_succ, i64_w, i32_w]
        rfl
      refine take_ (i := 3) (N := some 210) (v := ?_) (a' := ?_) #[true, true, true, true, false, false, false, false, false, false, false, false, false, false, false, false, false, false, false, false, false, false] rfl rfl (by kernel_rfl) (fun _ _ _ h => h) (Or.inl ⟨by rfl, ?_⟩) hHeld ?_ ?_
      rotate_left
      · rintro w' ⟨s0, s1, s2, s3, s4, s5, s6⟩
        go_simp
        with_reducible rfl
      rotate_left
      · simp only [Act.put, List.setIfInBounds_toArray, List.set_cons_zero, List.set_cons_succ, i64_w, i32_w]
        rfl
      refine pure_ (i := 4) (N := some 211) (v := ?_) (a' := ?_) #[true, true, true, true, true, false, false, false, false, false, false, false, false, false, false, false, false, false, false, false, false, false] rfl rfl (by kernel_rfl) (fun _ _ _ h => h) (Or.inl ⟨by rfl, ?_⟩) ?_ ?_
      rotate_left
      · intro w'
        go_simp
        with_reducible rfl
      rotate_left
      · simp only [Act.put, List.setIfInBounds_toArray, List.set_cons_zero, List.set_cons_succ, i64_w, i32_w]
        rfl
      refine take_ (i := 5) (N := some 212) (v := ?_) (a' := ?_) #[true, true, true, true, true, true, false, false, false, false, false, false, false, false, false, false, false, false, false, false, false, false] rfl rfl (by kernel_rfl) (fun _ _ _ h => h) (Or.inl ⟨by rfl, ?_⟩) hHeld ?_ ?_
      rotate_left
      · rintro w' ⟨s0, s1, s2, s3, s4, s5, s6⟩
        go_simp
        with_reducible rfl
      rotate_left
      · simp only [Act.put, List.setIfInBounds_toArray, List.set_cons_zero, List.set_cons_succ, i64_w, i32_w]
        rfl
      refine pure_ (i := 6) (N := some 213) (v := ?_) (a' := ?_) #[true, true, true, true, true, true, true, false, false, false, false, false, false, false, false, false, false, false, false, false, false, false] rfl rfl (by kernel_rfl) (fun _ _ _ h => h) (Or.inl ⟨by rfl, ?_⟩) ?_ ?_
      rotate_left
      · intro w'
        go_simp
        with_reducible rfl
      rotate_left
      · simp only [Act.put, List.setIfInBounds_toArray, List.set_cons_zero, List.set_cons_succ, i64_w, i32_w]
        rfl
      refine pure_ (i := 7) (N := some 214) (v := ?_) (a' := ?_) #[true, true, true, true, true, true, true, true, false, false, false, false, false, false, false, false, false, false, false, false, false, false] rfl rfl (by kernel_rfl) (fun _ _ _ h => h) (Or.inl ⟨by rfl, ?_⟩) ?_ ?_
      rotate_left
      · intro w'
        go_simp
        with_reducible rfl
      rotate_left
      · simp only [Act.put, List.setIfInBounds_toArray, List.set_cons_zero, List.set_cons_succ, i64_w, i32_w]
        rfl
      refine take_ (i := 8) (N := some 215) (v := ?_) (a' := ?_) #[true, true, true, true, true, true, true, true, true, false, false, false, false, false, false, false, false, false, false, false, false, false] rfl rfl (by kernel_rfl) (fun _ _ _ h => h) (Or.inl ⟨by rfl, ?_⟩) hHeld ?_ ?_
      rotate_left
      · rintro w' ⟨s0, s1, s2, s3, s4, s5, s6⟩
        go_simp
        with_reducible rfl
      rotate_left
      · simp only [Act.put, List.setIfInBounds_toArray, List.set_cons_zero, List.set_cons_succ, i64_w, i32_w]
        rfl
      refine pure_ (i := 10) (N := some 217) (v := ?_) (a' := ?_) #[true, true, true, true, true, true, true, true, true, false, true, false, false, false, false, false, false, false, false, false, false, false] rfl rfl (by kernel_rfl) (fun _ _ _ h => h) (Or.inl ⟨by rfl, ?_⟩) ?_ ?_
      rotate_left
      · intro w'
        go_simp
        with_reducible rfl
      rotate_left
      · simp only [Act.put, List.setIfInBounds_toArray, List.set_cons_zero, List.set_cons_succ, i64_w, i32_w]
        rfl
      refine pure_ (i := 11) (N := some 218) (v := ?_) (a' := ?_) #[true, true, true, true, true, true, true, true, true, false, true, true, false, false, false, false, false, false, false, false, false, false] rfl rfl (by kernel_rfl) (fun _ _ _ h => h) (Or.inl ⟨by rfl, ?_⟩) ?_ ?_
      rotate_left
      · intro w'
        go_simp
        with_reducible rfl
      rotate_left
      · simp only [Act.put, List.setIfInBounds_toArray, List.set_cons_zero, List.set_cons_succ, i64_w, i32_w]
        rfl
      refine pure_ (i := 12) (N := some 219) (v := ?_) (a' := ?_) #[true, true, true, true, true, true, true, true, true, false, true, true, true, false, false, false, false, false, false, false, false, false] rfl rfl (by kernel_rfl) (fun _ _ _ h => h) (Or.inl ⟨by rfl, ?_⟩) ?_ ?_
      rotate_left
      · intro w'
        go_simp
        with_reducible rfl
      rotate_left
      · simp only [Act.put, List.setIfInBounds_toArray, List.set_cons_zero, List.set_cons_succ, i64_w, i32_w]
        rfl
      refine take_ (i := 13) (N := some 220) (v := ?_) (a' := ?_) #[true, true, true, true, true, true, true, true, true, false, true, true, true, true, false, false, false, false, false, false, false, false] rfl rfl (by kernel_rfl) (fun _ _ _ h => h) (Or.inl ⟨by rfl, ?_⟩) hHeld ?_ ?_
      rotate_left
      · rintro w' ⟨s0, s1, s2, s3, s4, s5, s6⟩
        go_simp
        with_reducible rfl
      rotate_left
      · simp only [Act.put, List.setIfInBounds_toArray, List.set_cons_zero, List.set_cons_succ, i64_w, i32_w]
        rfl
      refine pure_ (i := 14) (N := some 221) (v := ?_) (a' := ?_) #[true, true, true, true, true, true, true, true, true, false, true, true, true, true, true, false, false, false, false, false, false, false] rfl rfl (by kernel_rfl) (fun _ _ _ h => h) (Or.inl ⟨by rfl, ?_⟩) ?_ ?_
      rotate_left
      · intro w'
        go_simp
        with_reducible rfl
      rotate_left
      · simp only [Act.put, List.setIfInBounds_toArray, List.set_cons_zero, List.set_cons_succ, i64_w, i32_w]
        rfl
      refine take_ (i := 15) (N := some 222) (v := ?_) (a' := ?_) #[true, true, true, true, true, true, true, true, true, false, true, true, true, true, true, true, false, false, false, false, false, false] rfl rfl (by kernel_rfl) (fun _ _ _ h => h) (Or.inl ⟨by rfl, ?_⟩) hHeld ?_ ?_
      rotate_left
      · rintro w' ⟨s0, s1, s2, s3, s4, s5, s6⟩
        go_simp
        with_reducible rfl
      rotate_left
      · simp only [Act.put, List.setIfInBounds_toArray, List.set_cons_zero, List.set_cons_succ, i64_w, i32_w]
        rfl
      refine pure_ (i := 16) (N := some 223) (v := ?_) (a' := ?_) #[true, true, true, true, true, true, true, true, true, false, true, true, true, true, true, true, true, false, false, false, false, false] rfl rfl (by kernel_rfl) (fun _ _ _ h => h) (Or.inl ⟨by rfl, ?_⟩) ?_ ?_
      rotate_left
      · intro w'
        go_simp
        with_reducible rfl
      rotate_left
      · simp only [Act.put, List.setIfInBounds_toArray, List.set_cons_zero, List.set_cons_succ, i64_w, i32_w]
        rfl
      refine pure_ (i := 17) (N := some 224) (v := ?_) (a' := ?_) #[true, true, true, true, true, true, true, true, true, false, true, true, true, true, true, true, true, true, false, false, false, false] rfl rfl (by kernel_rfl) (fun _ _ _ h => h) (Or.inl ⟨by rfl, ?_⟩) ?_ ?_
      rotate_left
      · intro w'
        go_simp
        with_reducible rfl
      rotate_left
      · simp only [Act.put, List.setIfInBounds_toArray, List.set_cons_zero, List.set_cons_succ, i64_w, i32_w]
        rfl
      refine take_ (i := 18) (N := some 225) (v := ?_) (a' := ?_) #[true, true, true, true, true, true, true, true, true, false, true, true, true, true, true, true, true, true, true, false, false, false] rfl rfl (by kernel_rfl) (fun _ _ _ h => h) (Or.inl ⟨by rfl, ?_⟩) hHeld ?_ ?_
      rotate_left
      · rintro w' ⟨s0, s1, s2, s3, s4, s5, s6⟩
        go_simp
        with_reducible rfl
      rotate_left
      · simp only [Act.put, List.setIfInBounds_toArray, List.set_cons_zero, List.set_cons_succ, i64_w, i32_w]
        rfl
      refine one_ (i := 9) (N := some 216) #[true, true, true, true, true, true, true, true, true, true, true, true, true, true, true, true, true, true, true, false, false, false] rfl rfl (by kernel_rfl) (by decide) (fun KK hK => ?_)
      refine goes_ Try.func12 (by kernel_rfl) rfl #[.pointer (some ⟨g, 0, none⟩), .int .i64 ix, .int .i64 x0] (by rfl) rfl rfl (by simp only [List.map_toArray, List.map_cons, List.map_nil]; rfl) ?_
      refine HC1.out.mono ?_
      rintro e w4 ⟨er1, r1, hp1, rfl, hm1, hf1⟩
      have hd4 := HDS.out.drew.step hf1
      refine ⟨_, rfl, ?_⟩
      refine hK.out _ _ ⟨hd4.held.1, hd4.held.2.1, hd4.held.2.2.1, hd4.held.2.2.2.1, hd4.held.2.2.2.2, (HO3.out.1.1.gd (w0 := w0) HO3.out.1.2 (((FrP.ofFr (Fr.drew [] w3)).mono (fun k _ hk => by simp at hk)).trans hf1)).cellq, (HO3.out.2.1.1.gd (w0 := w0) HO3.out.2.1.2 (((FrP.ofFr (Fr.drew [] w3)).mono (fun k _ hk => by simp at hk)).trans hf1)).cellq⟩ (fun hHeld => ?_)
      clear hK KK
      refine norm_ (a' := ?_) ?_ ?_
      rotate_left
      · show Act.put _ (some 216) _ = _
        simp only [Act.put, List.setIfInBounds_toArray, List.set_cons_zero, List.set_cons_succ, i64_w, i32_w]
        rfl
      have HC2 := Aside0.mk (hm1.setrootR1 (by have := HSB.out.2.lm; omega) ix y0)
      have H4 := Aside0.mk (And.intro hp1 (And.intro hm1 (And.intro hf1 hd4)))
      unfold ptr at HC2
      clear hp1 hm1 hf1 hd4 HC1
      refine one_ (i := 19) (N := some 226) #[true, true, true, true, true, true, true, true, true, true, true, true, true, true, true, true, true, true, true, true, false, false] rfl rfl (by kernel_rfl) (by decide) (fun KK hK => ?_)
      refine goes_ Try.func53 (by kernel_rfl) rfl #[.pointer (some ⟨gx, 0, none⟩), .int .i64 ix, .int .i64 y0] (by rfl) rfl rfl (by simp only [List.map_toArray, List.map_cons, List.map_nil]; rfl) ?_
      refine HC2.out.mono ?_
      rintro e w5 ⟨er2, r2, hp2, rfl, hm2, hf2⟩
      have hd5 := H4.out.2.2.2.step hf2
      have hsi := HSB.out.1.setrootB HSB.out.2 HX0.out H4.out.1 hp2
      obtain ⟨rfl, hsi⟩ := hsi
      refine ⟨_, rfl, ?_⟩
      refine hK.out _ _ ⟨hd5.held.1, hd5.held.2.1, hd5.held.2.2.1, hd5.held.2.2.2.1, hd5.held.2.2.2.2, (HO3.out.1.1.gd (w0 := w0) HO3.out.1.2 (((FrP.ofFr (Fr.drew [] w3)).mono (fun k _ hk => by simp at hk)).trans (H4.out.2.2.1.trans hf2))).cellq, (HO3.out.2.1.1.gd (w0 := w0) HO3.out.2.1.2 (((FrP.ofFr (Fr.drew [] w3)).mono (fun k _ hk => by simp at hk)).trans (H4.out.2.2.1.trans hf2))).cellq⟩ (fun hHeld => ?_)
      clear hK KK
      refine norm_ (a' := ?_) ?_ ?_
      rotate_left
      · show Act.put _ (some 226) _ = _
        simp only [Act.put, List.setIfInBounds_toArray, List.set_cons_zero, List.set_cons_succ, i64_w, i32_w]
        rfl
      have H5 := Aside0.mk (And.intro hm2 (And.intro hd5 hsi))
      clear hp2 hm2 hf2 hd5 hsi HC2
      refine pure_ (i := 20) (N := some 227) (v := ?_) (a' := ?_) #[true, true, true, true, true, true, true, true, true, true, true, true, true, true, true, true, true, true, true, true, true, false] rfl rfl (by kernel_rfl) (fun _ _ _ h => h) (Or.inl ⟨by rfl, ?_⟩) ?_ ?_
      rotate_left
      · intro w'
        go_simp
        with_reducible rfl
      rotate_left
      · simp only [Act.put, List.setIfInBounds_toArray, List.set_cons_zero, List.set_cons_succ, i64_w, i32_w]
        rfl
      refine pure_ (i := 21) (N := some 4) (v := ?_) (a' := ?_) #[true, true, true, true, true, true, true, true, true, true, true, true, true, true, true, true, true, true, true, true, true, true] rfl rfl (by kernel_rfl) (fun _ _ _ h => h) (Or.inl ⟨by rfl, ?_⟩) ?_ ?_
      rotate_left
      · intro w'
        go_simp
        with_reducible rfl
      rotate_left
      · simp only [Act.put, List.setIfInBounds_toArray, List.set_cons_zero, List.set_cons_succ, i64_w, i32_w]
        rfl
      refine done_ (by kernel_rfl) ?_
      go_wp2_with fail
      go_returns
      obtain ⟨hm5, hd5, hs5, hb5⟩ := H5.out
      have := hd5.fin hm5 hs5 hb5.up.up
      simpa using this
end
end Go.Proofs.Ytlghnldlkbgajaa.S
