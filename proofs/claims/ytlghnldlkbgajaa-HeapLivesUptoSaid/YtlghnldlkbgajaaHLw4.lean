
/- heap: the laws' own functions: does, Make and Text. -/
import Derived.Test.YtlghnldlkbgajaaHLwA
namespace Go.Proofs.Ytlghnldlkbgajaa.S
open Go.RowKit Go.Proofs.YtlghnldlkbgajaaW.PrintWords Go.Proofs.YtlghnldlkbgajaaW.PrintLast Go.Proofs.YtlghnldlkbgajaaW.PrintMore
set_option linter.unusedVariables false
set_option linter.unusedSimpArgs false
section
variable {w0 w w' : World} {K : List Nat} {p g gx : Nat} {L : List OW} {h : HH} {M : List OW} {k : RS} {ρ : Int → Int → Prop} {n : Nat}
set_option maxRecDepth 100000 in
set_option maxHeartbeats 4000000 in
theorem does_make (P : PM w0 w K g gx L h M k) (s : Sim ρ L h M k) (bd : Bnd n L h M k) (hn : n ≤ 900) (hpr : PrAt w p g gx) (hpK : p ∈ K) {A : Option Addr} {c : Nat} {xs : List Int} (hxs : IntsAt w A xs) (hxl : xs.length ≤ 10000000) (op kd ix : Int) (tx : ByteArray) (htx : tx.size ≤ 1000000000) (hr : (IntKind.u64.wrap op).tmod 9 = 0 ∨ (IntKind.u64.wrap op).tmod 9 = 1 ∨ (IntKind.u64.wrap op).tmod 9 = 2) :
    Calls Try.prog 25 #[ptr p, .agg #[.int .i64 op, .int .i64 kd, .int .i64 ix, .slice A xs.length c, .string tx]] w (DoesOk w0 w K g gx n) := by
  have hb0 : Below w.heap.size w (w.alloc (.cells #[.int .i64 op, .int .i64 kd, .int .i64 ix, .slice A xs.length c, .string tx] 59)) := (Below.refl _ _).alloc (Nat.le_refl _) _
  have hbox0 := heap_alloc_new w (.cells #[.int .i64 op, .int .i64 kd, .int .i64 ix, .slice A xs.length c, .string tx] 59)
  have HWD := Aside0.mk (words_calls (c := c) (P.new hb0) s (by have := bd.rl; omega) (hpr.new hb0) (hxs.new hb0) hxl)
  have HP := Aside0.mk P
  have HSB := Aside0.mk (And.intro s bd)
  have HPR := Aside0.mk (And.intro hpr hpK)
  have HB0 := Aside0.mk (And.intro hb0 hbox0)
  have HR := Aside0.mk hr
  unfold ptr
  unfold ptr at HWD
  clear P s hpr hpK hb0 hbox0 hr hxs
  go_enter Try.func25, Try.ntmps25
  go_wp2_with fail
  refine HWD.out.mono ?_
  rintro e w2 ⟨A1, c1, A2, c2, a, b, rfl, hab, hal, ho1, ho2, hb2⟩
  have hbA := HB0.out.1.trans (Below.mono hb2 HB0.out.1.size)
  have hPw := HP.out.new hbA
  have hprw := HPR.out.1.new hbA
  have HD := Aside0.mk (word_calls hPw HSB.out.1 (by have := bd.rl; omega) hprw ix)
  have hbx2 := (FrP.ofBelow hb2).get HB0.out.2 (by simp)
  have k2 : w2.cell? ⟨w.heap.size, 2, none⟩ = some (.int .i64 ix) := (blk_cell hbx2 2).trans rfl
  have H2 := Aside0.mk (show Below w.heap.size w w2 ∧ w2.heap[w.heap.size]? = some (.cells #[.int .i64 op, .int .i64 kd, .int .i64 ix, .slice A xs.length c, .string tx] 59 (0, 0)) from ⟨hbA, hbx2⟩)
  have HO := Aside0.mk (And.intro (And.intro ho1 ho2) hab)
  unfold ptr at HD
  have HAL0 := Aside0.mk hal
  clear hbA hPw hprw hbx2 ho1 ho2 hb2 hab hal HWD
  go_wp2_with fail
  refine HD.out.mono ?_
  rintro e w3 ⟨u, v, rfl, huv, hf3⟩
  have hb3 : Below w.heap.size w w3 := H2.out.1.trans ((FrP.ofFr hf3).below H2.out.1.size (fun i hi => by simp at hi))
  have ho1 := HO.out.1.1.frp (FrP.ofFr hf3) (fun k _ => by simp)
  have ho2 := HO.out.1.2.frp (FrP.ofFr hf3) (fun k _ => by simp)
  have hsA := HB0.out.1.size
  have hbx3 := hf3.get H2.out.2 (by simp)
  have k0 : w3.cell? ⟨w.heap.size, 0, none⟩ = some (.int .i64 op) := (blk_cell hbx3 0).trans rfl
  obtain ⟨K1, hK1⟩ : ∃ K1, K1 = (w.heap.size :: (blks A1 ++ blks A2)) ++ K := ⟨_, rfl⟩
  have hP3 : PM w0 w3 K1 g gx L h M k := by
    rw [hK1]
    refine HP.out.guard hb3 _ (fun j hj => ?_)
    rcases List.mem_cons.1 hj with rfl | hj
    · exact ⟨Nat.le_refl _, blk_lt hbx3⟩
    · rcases List.mem_append.1 hj with hj | hj
      · have := ho1.blk j hj; exact ⟨by omega, this.2⟩
      · have := ho2.blk j hj; exact ⟨by omega, this.2⟩
  have hds : DS w0 w w3 K K1 p g gx w.heap.size op kd ix (.slice A xs.length c) tx :=
    ⟨fun j hj => by rw [hK1]; simp [hj], FrP.new hb3 _, HPR.out.1.new hb3, by rw [hK1]; simp [HPR.out.2], hbx3, by rw [hK1]; simp⟩
  have HO3 := Aside0.mk (show (OwnW w3 (w.alloc (.cells #[.int .i64 op, .int .i64 kd, .int .i64 ix, .slice A xs.length c, .string tx] 59)).heap.size A1 c1 a ∧ ∀ j ∈ blks A1, j ∈ K1) ∧ (OwnW w3 (w.alloc (.cells #[.int .i64 op, .int .i64 kd, .int .i64 ix, .slice A xs.length c, .string tx] 59)).heap.size A2 c2 b ∧ ∀ j ∈ blks A2, j ∈ K1) ∧ All2 (WX ρ) a b ∧ WX ρ u v from
    ⟨⟨ho1, fun j hj => by rw [hK1]; simp [hj]⟩, ⟨ho2, fun j hj => by rw [hK1]; simp [hj]⟩, HO.out.2, huv⟩)
  have HP3 := Aside0.mk hP3
  have HDS := Aside0.mk hds
  have HAL := Aside0.mk (And.intro HAL0.out HO.out.2.1)
  obtain ⟨b0, hb0⟩ : ∃ b0, b0 = w.heap.size := ⟨_, rfl⟩
  rw [← hb0] at k0 HDS ⊢
  clear hb3 ho1 ho2 hsA hbx3 hK1 hP3 hds huv hf3 HD HO H2 HB0 HP HPR hb0
  rcases HR.out with hrr | hrr | hrr
  · have t0 : (wrap64 ((IntKind.u64.wrap op).tmod 9) == 0) = true := by rw [hrr, show wrap64 0 = 0 by unfold wrap64; omega]; decide
    clear hrr HR
    go_wp2_with fail
    have hPd := HP3.out.fr0 (Fr.drew [] w3)
    have hsm := HSB.out.2.sm HSB.out.1 (by omega)
    have hh0 := HSB.out.1.has0
    have hll := HSB.out.2.ll
    have hnx := HSB.out.2.nx
    have HC1 := Aside0.mk (hPd.makeL (c := c1) hsm (by have := HSB.out.2.rl; omega) (by omega) (by omega) kd (HO3.out.1.1.gd (w0 := w0) HO3.out.1.2 ((FrP.ofFr (Fr.drew [] w3)).mono (fun k _ hk => by simp at hk))).rowIn (by have := HAL.out; omega))
    have HD3 := Aside0.mk (show (w3.drew.cell? ⟨p, 0, none⟩ = some (.pointer (some ⟨g, 0, none⟩)) ∧ w3.drew.cell? ⟨p, 1, none⟩ = some (.pointer (some ⟨gx, 0, none⟩)) ∧ w3.drew.cell? ⟨b0, 1, none⟩ = some (.int .i64 kd) ∧ w3.drew.cell? ⟨b0, 2, none⟩ = some (.int .i64 ix) ∧ w3.drew.cell? ⟨b0, 4, none⟩ = some (.string tx)) from HDS.out.drew.held)
    unfold ptr at HC1
    clear hPd hsm hh0 hll hnx k0
    refine start_ (n := 13) (S := (fun w' => w'.cell? ⟨p, 0, none⟩ = some (.pointer (some ⟨g, 0, none⟩)) ∧ w'.cell? ⟨p, 1, none⟩ = some (.pointer (some ⟨gx, 0, none⟩)) ∧ w'.cell? ⟨b0, 1, none⟩ = some (.int .i64 kd) ∧ w'.cell? ⟨b0, 2, none⟩ = some (.int .i64 ix) ∧ w'.cell? ⟨b0, 4, none⟩ = some (.string tx))) (ds := []) #[false, false, false, false, false, false, false, false, false, false, false, false, false] (by kernel_rfl) rfl rfl HD3.out (fun hHeld => ?_)
    refine pure_ (i := 0) (N := some 45) (v := ?_) (a' := ?_) #[true, false, false, false, false, false, false, false, false, false, false, false, false] rfl rfl (by kernel_rfl) (fun _ _ _ h => h) (Or.inl ⟨by rfl, ?_⟩) ?_ ?_
    rotate_left
    · intro w'
      go_simp
      with_reducible rfl
    rotate_left
    · simp only [Act.put, List.setIfInBounds_toArray, List.set_cons_zero, List.set_cons_succ, i64_w, i32_w]
      rfl
    refine pure_ (i := 1) (N := some 46) (v := ?_) (a' := ?_) #[true, true, false, false, false, false, false, false, false, false, false, false, false] rfl rfl (by kernel_rfl) (fun _ _ _ h => h) (Or.inl ⟨by rfl, ?_⟩) ?_ ?_
    rotate_left
    · intro w'
      go_simp
      with_reducible rfl
    rotate_left
    · simp only [Act.put, List.setIfInBounds_toArray, List.set_cons_zero, List.set_cons_succ, i64_w, i32_w]
      rfl
    refine pure_ (i := 2) (N := some 47) (v := ?_) (a' := ?_) #[true, true, true, false, false, false, false, false, false, false, false, false, false] rfl rfl (by kernel_rfl) (fun _ _ _ h => h) (Or.inl ⟨by rfl, ?_⟩) ?_ ?_
    rotate_left
    · intro w'
      go_simp
      with_reducible rfl
    rotate_left
    · simp only [Act.put, List.setIfInBounds_toArray, List.set_cons_zero, List.set_cons_succ, i64_w, i32_w]
      rfl
    refine take_ (i := 3) (N := some 48) (v := ?_) (a' := ?_) #[true, true, true, true, false, false, false, false, false, false, false, false, false] rfl rfl (by kernel_rfl) (fun _ _ _ h => h) (Or.inl ⟨by rfl, ?_⟩) hHeld ?_ ?_
    rotate_left
    · rintro w' ⟨s0, s1, s2, s3, s4⟩
      go_simp
      with_reducible rfl
    rotate_left
    · simp only [Act.put, List.setIfInBounds_toArray, List.set_cons_zero, List.set_cons_succ, i64_w, i32_w]
      rfl
    refine pure_ (i := 4) (N := some 49) (v := ?_) (a' := ?_) #[true, true, true, true, true, false, false, false, false, false, false, false, false] rfl rfl (by kernel_rfl) (fun _ _ _ h => h) (Or.inl ⟨by rfl, ?_⟩) ?_ ?_
    rotate_left
    · intro w'
      go_simp
      with_reducible rfl
    rotate_left
    · simp only [Act.put, List.setIfInBounds_toArray, List.set_cons_zero, List.set_cons_succ, i64_w, i32_w]
      rfl
    refine take_ (i := 5) (N := some 50) (v := ?_) (a' := ?_) #[true, true, true, true, true, true, false, false, false, false, false, false, false] rfl rfl (by kernel_rfl) (fun _ _ _ h => h) (Or.inl ⟨by rfl, ?_⟩) hHeld ?_ ?_
    rotate_left
    · rintro w' ⟨s0, s1, s2, s3, s4⟩
      go_simp
      with_reducible rfl
    rotate_left
    · simp only [Act.put, List.setIfInBounds_toArray, List.set_cons_zero, List.set_cons_succ, i64_w, i32_w]
      rfl
    refine pure_ (i := 6) (N := some 51) (v := ?_) (a' := ?_) #[true, true, true, true, true, true, true, false, false, false, false, false, false] rfl rfl (by kernel_rfl) (fun _ _ _ h => h) (Or.inl ⟨by rfl, ?_⟩) ?_ ?_
    rotate_left
    · intro w'
      go_simp
      with_reducible rfl
    rotate_left
    · simp only [Act.put, List.setIfInBounds_toArray, List.set_cons_zero, List.set_cons_succ, i64_w, i32_w]
      rfl
    refine one_ (i := 7) (N := some 52) #[true, true, true, true, true, true, true, true, false, false, false, false, false] rfl rfl (by kernel_rfl) (by decide) (fun KK hK => ?_)
    refine goes_ Try.func10 (by kernel_rfl) rfl #[.pointer (some ⟨g, 0, none⟩), .int .i64 kd, .slice A1 a.length c1] (by rfl) rfl rfl (by simp only [List.map_toArray, List.map_cons, List.map_nil]; rfl) ?_
    refine HC1.out.mono ?_
    rintro e w4 ⟨r1, er1, L1, h1, hp1, rfl, hm1, hf1⟩
    have hd4 := HDS.out.drew.step hf1
    refine ⟨_, rfl, ?_⟩
    refine hK.out _ _ hd4.held (fun hHeld => ?_)
    clear hK KK
    refine norm_ (a' := ?_) ?_ ?_
    rotate_left
    · show Act.put _ (some 52) _ = _
      simp only [Act.put, List.setIfInBounds_toArray, List.set_cons_zero, List.set_cons_succ, i64_w, i32_w]
      rfl
    have H4 := Aside0.mk (And.intro hp1 (And.intro hm1 (And.intro hf1 hd4)))
    clear hp1 hm1 hf1 hd4 HC1
    refine pure_ (i := 8) (N := some 44) (v := ?_) (a' := ?_) #[true, true, true, true, true, true, true, true, true, false, false, false, false] rfl rfl (by kernel_rfl) (fun _ _ _ h => h) (Or.inl ⟨by rfl, ?_⟩) ?_ ?_
    rotate_left
    · intro w'
      go_simp
      with_reducible rfl
    rotate_left
    · simp only [Act.put, List.setIfInBounds_toArray, List.set_cons_zero, List.set_cons_succ, i64_w, i32_w]
      rfl
    refine pure_ (i := 9) (N := some 53) (v := ?_) (a' := ?_) #[true, true, true, true, true, true, true, true, true, true, false, false, false] rfl rfl (by kernel_rfl) (fun _ _ _ h => h) (Or.inl ⟨by rfl, ?_⟩) ?_ ?_
    rotate_left
    · intro w'
      go_simp
      with_reducible rfl
    rotate_left
    · simp only [Act.put, List.setIfInBounds_toArray, List.set_cons_zero, List.set_cons_succ, i64_w, i32_w]
      rfl
    refine pure_ (i := 10) (N := some 54) (v := ?_) (a' := ?_) #[true, true, true, true, true, true, true, true, true, true, true, false, false] rfl rfl (by kernel_rfl) (fun _ _ _ h => h) (Or.inl ⟨by rfl, ?_⟩) ?_ ?_
    rotate_left
    · intro w'
      go_simp
      with_reducible rfl
    rotate_left
    · simp only [Act.put, List.setIfInBounds_toArray, List.set_cons_zero, List.set_cons_succ, i64_w, i32_w]
      rfl
    refine pure_ (i := 11) (N := some 9) (v := ?_) (a' := ?_) #[true, true, true, true, true, true, true, true, true, true, true, true, false] rfl rfl (by kernel_rfl) (fun _ _ _ h => h) (Or.inl ⟨by rfl, ?_⟩) ?_ ?_
    rotate_left
    · intro w'
      go_simp
      with_reducible rfl
    rotate_left
    · simp only [Act.put, List.setIfInBounds_toArray, List.set_cons_zero, List.set_cons_succ, i64_w, i32_w]
      rfl
    refine pure_ (i := 12) (N := some 10) (v := ?_) (a' := ?_) #[true, true, true, true, true, true, true, true, true, true, true, true, true] rfl rfl (by kernel_rfl) (fun _ _ _ h => h) (Or.inl ⟨by rfl, ?_⟩) ?_ ?_
    rotate_left
    · intro w'
      go_simp
      with_reducible rfl
    rotate_left
    · simp only [Act.put, List.setIfInBounds_toArray, List.set_cons_zero, List.set_cons_succ, i64_w, i32_w]
      rfl
    refine done_ (by kernel_rfl) ?_
    go_wp2_with fail
    have hPd := H4.out.2.1.fr0 (Fr.drew [] w4)
    have hsm := HSB.out.2.smt HSB.out.1 (by omega)
    have hrl := HSB.out.2.rl
    have hr2 := HSB.out.1.roots.1
    have HC2 := Aside0.mk (hPd.makeR (c := c2) hsm (by omega) kd ((HO3.out.2.1.1.gd (w0 := w0) HO3.out.2.1.2 (((FrP.ofFr (Fr.drew [] w3)).mono (fun k _ hk => by simp at hk)).trans (H4.out.2.2.1.trans ((FrP.ofFr (Fr.drew [] w4)).mono (fun k _ hk => by simp at hk))))).rowIn))
    have HD4 := Aside0.mk (show (w4.drew.cell? ⟨p, 0, none⟩ = some (.pointer (some ⟨g, 0, none⟩)) ∧ w4.drew.cell? ⟨p, 1, none⟩ = some (.pointer (some ⟨gx, 0, none⟩)) ∧ w4.drew.cell? ⟨b0, 1, none⟩ = some (.int .i64 kd) ∧ w4.drew.cell? ⟨b0, 2, none⟩ = some (.int .i64 ix) ∧ w4.drew.cell? ⟨b0, 4, none⟩ = some (.string tx)) from H4.out.2.2.2.drew.held)
    unfold ptr at HC2
    clear hPd hsm hrl hr2
    refine start_ (n := 13) (S := (fun w' => w'.cell? ⟨p, 0, none⟩ = some (.pointer (some ⟨g, 0, none⟩)) ∧ w'.cell? ⟨p, 1, none⟩ = some (.pointer (some ⟨gx, 0, none⟩)) ∧ w'.cell? ⟨b0, 1, none⟩ = some (.int .i64 kd) ∧ w'.cell? ⟨b0, 2, none⟩ = some (.int .i64 ix) ∧ w'.cell? ⟨b0, 4, none⟩ = some (.string tx))) (ds := []) #[false, false, false, false, false, false, false, false, false, false, false, false, false] (by kernel_rfl) rfl rfl HD4.out (fun hHeld => ?_)
    refine pure_ (i := 0) (N := some 56) (v := ?_) (a' := ?_) #[true, false, false, false, false, false, false, false, false, false, false, false, false] rfl rfl (by kernel_rfl) (fun _ _ _ h => h) (Or.inl ⟨by rfl, ?_⟩) ?_ ?_
    rotate_left
    · intro w'
      go_simp
      with_reducible rfl
    rotate_left
    · simp only [Act.put, List.setIfInBounds_toArray, List.set_cons_zero, List.set_cons_succ, i64_w, i32_w]
      rfl
    refine pure_ (i := 1) (N := some 57) (v := ?_) (a' := ?_) #[true, true, false, false, false, false, false, false, false, false, false, false, false] rfl rfl (by kernel_rfl) (fun _ _ _ h => h) (Or.inl ⟨by rfl, ?_⟩) ?_ ?_
    rotate_left
    · intro w'
      go_simp
      with_reducible rfl
    rotate_left
    · simp only [Act.put, List.setIfInBounds_toArray, List.set_cons_zero, List.set_cons_succ, i64_w, i32_w]
      rfl
    refine pure_ (i := 2) (N := some 58) (v := ?_) (a' := ?_) #[true, true, true, false, false, false, false, false, false, false, false, false, false] rfl rfl (by kernel_rfl) (fun _ _ _ h => h) (Or.inl ⟨by rfl, ?_⟩) ?_ ?_
    rotate_left
    · intro w'
      go_simp
      with_reducible rfl
    rotate_left
    · simp only [Act.put, List.setIfInBounds_toArray, List.set_cons_zero, List.set_cons_succ, i64_w, i32_w]
      rfl
    refine take_ (i := 3) (N := some 59) (v := ?_) (a' := ?_) #[true, true, true, true, false, false, false, false, false, false, false, false, false] rfl rfl (by kernel_rfl) (fun _ _ _ h => h) (Or.inl ⟨by rfl, ?_⟩) hHeld ?_ ?_
    rotate_left
    · rintro w' ⟨s0, s1, s2, s3, s4⟩
      go_simp
      with_reducible rfl
    rotate_left
    · simp only [Act.put, List.setIfInBounds_toArray, List.set_cons_zero, List.set_cons_succ, i64_w, i32_w]
      rfl
    refine pure_ (i := 4) (N := some 60) (v := ?_) (a' := ?_) #[true, true, true, true, true, false, false, false, false, false, false, false, false] rfl rfl (by kernel_rfl) (fun _ _ _ h => h) (Or.inl ⟨by rfl, ?_⟩) ?_ ?_
    rotate_left
    · intro w'
      go_simp
      with_reducible rfl
    rotate_left
    · simp only [Act.put, List.setIfInBounds_toArray, List.set_cons_zero, List.set_cons_succ, i64_w, i32_w]
      rfl
    refine take_ (i := 5) (N := some 61) (v := ?_) (a' := ?_) #[true, true, true, true, true, true, false, false, false, false, false, false, false] rfl rfl (by kernel_rfl) (fun _ _ _ h => h) (Or.inl ⟨by rfl, ?_⟩) hHeld ?_ ?_
    rotate_left
    · rintro w' ⟨s0, s1, s2, s3, s4⟩
      go_simp
      with_reducible rfl
    rotate_left
    · simp only [Act.put, List.setIfInBounds_toArray, List.set_cons_zero, List.set_cons_succ, i64_w, i32_w]
      rfl
    refine pure_ (i := 6) (N := some 62) (v := ?_) (a' := ?_) #[true, true, true, true, true, true, true, false, false, false, false, false, false] rfl rfl (by kernel_rfl) (fun _ _ _ h => h) (Or.inl ⟨by rfl, ?_⟩) ?_ ?_
    rotate_left
    · intro w'
      go_simp
      with_reducible rfl
    rotate_left
    · simp only [Act.put, List.setIfInBounds_toArray, List.set_cons_zero, List.set_cons_succ, i64_w, i32_w]
      rfl
    refine one_ (i := 7) (N := some 63) #[true, true, true, true, true, true, true, true, false, false, false, false, false] rfl rfl (by kernel_rfl) (by decide) (fun KK hK => ?_)
    refine goes_ Try.func48 (by kernel_rfl) rfl #[.pointer (some ⟨gx, 0, none⟩), .int .i64 kd, .slice A2 b.length c2] (by rfl) rfl rfl (by simp only [List.map_toArray, List.map_cons, List.map_nil]; rfl) ?_
    refine HC2.out.mono ?_
    rintro e w5 ⟨r2, er2, M2, k2, hp2, rfl, hm2, hf2⟩
    have hd5 := H4.out.2.2.2.drew.step hf2
    have hsi := HSB.out.1.make HSB.out.2 (by omega) HP3.out.tapart HO3.out.2.2.1 H4.out.1 hp2
    obtain ⟨rfl, ρ2, hs5, hb5, hw5⟩ := hsi
    refine ⟨_, rfl, ?_⟩
    refine hK.out _ _ hd5.held (fun hHeld => ?_)
    clear hK KK
    refine norm_ (a' := ?_) ?_ ?_
    rotate_left
    · show Act.put _ (some 63) _ = _
      simp only [Act.put, List.setIfInBounds_toArray, List.set_cons_zero, List.set_cons_succ, i64_w, i32_w]
      rfl
    have H5 := Aside0.mk (And.intro hm2 (And.intro hd5 (And.intro hs5 (And.intro hb5 hw5))))
    clear hp2 hm2 hf2 hd5 hs5 hb5 hw5 HC2
    refine pure_ (i := 8) (N := some 55) (v := ?_) (a' := ?_) #[true, true, true, true, true, true, true, true, true, false, false, false, false] rfl rfl (by kernel_rfl) (fun _ _ _ h => h) (Or.inl ⟨by rfl, ?_⟩) ?_ ?_
    rotate_left
    · intro w'
      go_simp
      with_reducible rfl
    rotate_left
    · simp only [Act.put, List.setIfInBounds_toArray, List.set_cons_zero, List.set_cons_succ, i64_w, i32_w]
      rfl
    refine pure_ (i := 9) (N := some 64) (v := ?_) (a' := ?_) #[true, true, true, true, true, true, true, true, true, true, false, false, false] rfl rfl (by kernel_rfl) (fun _ _ _ h => h) (Or.inl ⟨by rfl, ?_⟩) ?_ ?_
    rotate_left
    · intro w'
      go_simp
      with_reducible rfl
    rotate_left
    · simp only [Act.put, List.setIfInBounds_toArray, List.set_cons_zero, List.set_cons_succ, i64_w, i32_w]
      rfl
    refine pure_ (i := 10) (N := some 65) (v := ?_) (a' := ?_) #[true, true, true, true, true, true, true, true, true, true, true, false, false] rfl rfl (by kernel_rfl) (fun _ _ _ h => h) (Or.inl ⟨by rfl, ?_⟩) ?_ ?_
    rotate_left
    · intro w'
      go_simp
      with_reducible rfl
    rotate_left
    · simp only [Act.put, List.setIfInBounds_toArray, List.set_cons_zero, List.set_cons_succ, i64_w, i32_w]
      rfl
    refine pure_ (i := 11) (N := some 11) (v := ?_) (a' := ?_) #[true, true, true, true, true, true, true, true, true, true, true, true, false] rfl rfl (by kernel_rfl) (fun _ _ _ h => h) (Or.inl ⟨by rfl, ?_⟩) ?_ ?_
    rotate_left
    · intro w'
      go_simp
      with_reducible rfl
    rotate_left
    · simp only [Act.put, List.setIfInBounds_toArray, List.set_cons_zero, List.set_cons_succ, i64_w, i32_w]
      rfl
    refine pure_ (i := 12) (N := some 12) (v := ?_) (a' := ?_) #[true, true, true, true, true, true, true, true, true, true, true, true, true] rfl rfl (by kernel_rfl) (fun _ _ _ h => h) (Or.inl ⟨by rfl, ?_⟩) ?_ ?_
    rotate_left
    · intro w'
      go_simp
      with_reducible rfl
    rotate_left
    · simp only [Act.put, List.setIfInBounds_toArray, List.set_cons_zero, List.set_cons_succ, i64_w, i32_w]
      rfl
    refine done_ (by kernel_rfl) ?_
    go_wp2_with fail
    have HPB := Aside0.mk (push_both (er := er1) H5.out.1 H5.out.2.2.1 H5.out.2.2.2.1 (by omega) H5.out.2.1.pr H5.out.2.1.pk H5.out.2.2.2.2)
    unfold ptr at HPB
    refine HPB.out.mono ?_
    rintro e w6 ⟨rfl, h6, k6, hm6, hs6, hb6, hf6⟩
    have H6 := Aside0.mk (And.intro hm6 (And.intro hs6 (And.intro hb6 hf6)))
    clear hm6 hs6 hb6 hf6 HPB
    go_wp2_with fail
    go_returns
    exact (H5.out.2.1.step H6.out.2.2.2).fin H6.out.1 H6.out.2.1 H6.out.2.2.1
  · have t0 : (wrap64 ((IntKind.u64.wrap op).tmod 9) == 0) = false := by rw [hrr, show wrap64 1 = 1 by unfold wrap64; omega]; decide
    have t1 : (wrap64 ((IntKind.u64.wrap op).tmod 9) == 1) = true := by rw [hrr, show wrap64 1 = 1 by unfold wrap64; omega]; decide
    clear hrr HR
    go_wp2_with fail
    have hPd := HP3.out.fr0 (Fr.drew [] w3)
    have hsm := HSB.out.2.sm HSB.out.1 (by omega)
    have hh0 := HSB.out.1.has0
    have hll := HSB.out.2.ll
    have hnx := HSB.out.2.nx
    have HC1 := Aside0.mk (hPd.makeL (c := c1) hsm (by have := HSB.out.2.rl; omega) (by omega) (by omega) kd (HO3.out.1.1.gd (w0 := w0) HO3.out.1.2 ((FrP.ofFr (Fr.drew [] w3)).mono (fun k _ hk => by simp at hk))).rowIn (by have := HAL.out; omega))
    have HD3 := Aside0.mk (show (w3.drew.cell? ⟨p, 0, none⟩ = some (.pointer (some ⟨g, 0, none⟩)) ∧ w3.drew.cell? ⟨p, 1, none⟩ = some (.pointer (some ⟨gx, 0, none⟩)) ∧ w3.drew.cell? ⟨b0, 1, none⟩ = some (.int .i64 kd) ∧ w3.drew.cell? ⟨b0, 2, none⟩ = some (.int .i64 ix) ∧ w3.drew.cell? ⟨b0, 4, none⟩ = some (.string tx)) from HDS.out.drew.held)
    unfold ptr at HC1
    clear hPd hsm hh0 hll hnx k0
    refine start_ (n := 13) (S := (fun w' => w'.cell? ⟨p, 0, none⟩ = some (.pointer (some ⟨g, 0, none⟩)) ∧ w'.cell? ⟨p, 1, none⟩ = some (.pointer (some ⟨gx, 0, none⟩)) ∧ w'.cell? ⟨b0, 1, none⟩ = some (.int .i64 kd) ∧ w'.cell? ⟨b0, 2, none⟩ = some (.int .i64 ix) ∧ w'.cell? ⟨b0, 4, none⟩ = some (.string tx))) (ds := []) #[false, false, false, false, false, false, false, false, false, false, false, false, false] (by kernel_rfl) rfl rfl HD3.out (fun hHeld => ?_)
    refine pure_ (i := 0) (N := some 45) (v := ?_) (a' := ?_) #[true, false, false, false, false, false, false, false, false, false, false, false, false] rfl rfl (by kernel_rfl) (fun _ _ _ h => h) (Or.inl ⟨by rfl, ?_⟩) ?_ ?_
    rotate_left
    · intro w'
      go_simp
      with_reducible rfl
    rotate_left
    · simp only [Act.put, List.setIfInBounds_toArray, List.set_cons_zero, List.set_cons_succ, i64_w, i32_w]
      rfl
    refine pure_ (i := 1) (N := some 46) (v := ?_) (a' := ?_) #[true, true, false, false, false, false, false, false, false, false, false, false, false] rfl rfl (by kernel_rfl) (fun _ _ _ h => h) (Or.inl ⟨by rfl, ?_⟩) ?_ ?_
    rotate_left
    · intro w'
      go_simp
      with_reducible rfl
    rotate_left
    · simp only [Act.put, List.setIfInBounds_toArray, List.set_cons_zero, List.set_cons_succ, i64_w, i32_w]
      rfl
    refine pure_ (i := 2) (N := some 47) (v := ?_) (a' := ?_) #[true, true, true, false, false, false, false, false, false, false, false, false, false] rfl rfl (by kernel_rfl) (fun _ _ _ h => h) (Or.inl ⟨by rfl, ?_⟩) ?_ ?_
    rotate_left
    · intro w'
      go_simp
      with_reducible rfl
    rotate_left
    · simp only [Act.put, List.setIfInBounds_toArray, List.set_cons_zero, List.set_cons_succ, i64_w, i32_w]
      rfl
    refine take_ (i := 3) (N := some 48) (v := ?_) (a' := ?_) #[true, true, true, true, false, false, false, false, false, false, false, false, false] rfl rfl (by kernel_rfl) (fun _ _ _ h => h) (Or.inl ⟨by rfl, ?_⟩) hHeld ?_ ?_
    rotate_left
    · rintro w' ⟨s0, s1, s2, s3, s4⟩
      go_simp
      with_reducible rfl
    rotate_left
    · simp only [Act.put, List.setIfInBounds_toArray, List.set_cons_zero, List.set_cons_succ, i64_w, i32_w]
      rfl
    refine pure_ (i := 4) (N := some 49) (v := ?_) (a' := ?_) #[true, true, true, true, true, false, false, false, false, false, false, false, false] rfl rfl (by kernel_rfl) (fun _ _ _ h => h) (Or.inl ⟨by rfl, ?_⟩) ?_ ?_
    rotate_left
    · intro w'
      go_simp
      with_reducible rfl
    rotate_left
    · simp only [Act.put, List.setIfInBounds_toArray, List.set_cons_zero, List.set_cons_succ, i64_w, i32_w]
      rfl
    refine take_ (i := 5) (N := some 50) (v := ?_) (a' := ?_) #[true, true, true, true, true, true, false, false, false, false, false, false, false] rfl rfl (by kernel_rfl) (fun _ _ _ h => h) (Or.inl ⟨by rfl, ?_⟩) hHeld ?_ ?_
    rotate_left
    · rintro w' ⟨s0, s1, s2, s3, s4⟩
      go_simp
      with_reducible rfl
    rotate_left
    · simp only [Act.put, List.setIfInBounds_toArray, List.set_cons_zero, List.set_cons_succ, i64_w, i32_w]
      rfl
    refine pure_ (i := 6) (N := some 51) (v := ?_) (a' := ?_) #[true, true, true, true, true, true, true, false, false, false, false, false, false] rfl rfl (by kernel_rfl) (fun _ _ _ h => h) (Or.inl ⟨by rfl, ?_⟩) ?_ ?_
    rotate_left
    · intro w'
      go_simp
      with_reducible rfl
    rotate_left
    · simp only [Act.put, List.setIfInBounds_toArray, List.set_cons_zero, List.set_cons_succ, i64_w, i32_w]
      rfl
    refine one_ (i := 7) (N := some 52) #[true, true, true, true, true, true, true, true, false, false, false, false, false] rfl rfl (by kernel_rfl) (by decide) (fun KK hK => ?_)
    refine goes_ Try.func10 (by kernel_rfl) rfl #[.pointer (some ⟨g, 0, none⟩), .int .i64 kd, .slice A1 a.length c1] (by rfl) rfl rfl (by simp only [List.map_toArray, List.map_cons, List.map_nil]; rfl) ?_
    refine HC1.out.mono ?_
    rintro e w4 ⟨r1, er1, L1, h1, hp1, rfl, hm1, hf1⟩
    have hd4 := HDS.out.drew.step hf1
    refine ⟨_, rfl, ?_⟩
    refine hK.out _ _ hd4.held (fun hHeld => ?_)
    clear hK KK
    refine norm_ (a' := ?_) ?_ ?_
    rotate_left
    · show Act.put _ (some 52) _ = _
      simp only [Act.put, List.setIfInBounds_toArray, List.set_cons_zero, List.set_cons_succ, i64_w, i32_w]
      rfl
    have H4 := Aside0.mk (And.intro hp1 (And.intro hm1 (And.intro hf1 hd4)))
    clear hp1 hm1 hf1 hd4 HC1
    refine pure_ (i := 8) (N := some 44) (v := ?_) (a' := ?_) #[true, true, true, true, true, true, true, true, true, false, false, false, false] rfl rfl (by kernel_rfl) (fun _ _ _ h => h) (Or.inl ⟨by rfl, ?_⟩) ?_ ?_
    rotate_left
    · intro w'
      go_simp
      with_reducible rfl
    rotate_left
    · simp only [Act.put, List.setIfInBounds_toArray, List.set_cons_zero, List.set_cons_succ, i64_w, i32_w]
      rfl
    refine pure_ (i := 9) (N := some 53) (v := ?_) (a' := ?_) #[true, true, true, true, true, true, true, true, true, true, false, false, false] rfl rfl (by kernel_rfl) (fun _ _ _ h => h) (Or.inl ⟨by rfl, ?_⟩) ?_ ?_
    rotate_left
    · intro w'
      go_simp
      with_reducible rfl
    rotate_left
    · simp only [Act.put, List.setIfInBounds_toArray, List.set_cons_zero, List.set_cons_succ, i64_w, i32_w]
      rfl
    refine pure_ (i := 10) (N := some 54) (v := ?_) (a' := ?_) #[true, true, true, true, true, true, true, true, true, true, true, false, false] rfl rfl (by kernel_rfl) (fun _ _ _ h => h) (Or.inl ⟨by rfl, ?_⟩) ?_ ?_
    rotate_left
    · intro w'
      go_simp
      with_reducible rfl
    rotate_left
    · simp only [Act.put, List.setIfInBounds_toArray, List.set_cons_zero, List.set_cons_succ, i64_w, i32_w]
      rfl
    refine pure_ (i := 11) (N := some 9) (v := ?_) (a' := ?_) #[true, true, true, true, true, true, true, true, true, true, true, true, false] rfl rfl (by kernel_rfl) (fun _ _ _ h => h) (Or.inl ⟨by rfl, ?_⟩) ?_ ?_
    rotate_left
    · intro w'
      go_simp
      with_reducible rfl
    rotate_left
    · simp only [Act.put, List.setIfInBounds_toArray, List.set_cons_zero, List.set_cons_succ, i64_w, i32_w]
      rfl
    refine pure_ (i := 12) (N := some 10) (v := ?_) (a' := ?_) #[true, true, true, true, true, true, true, true, true, true, true, true, true] rfl rfl (by kernel_rfl) (fun _ _ _ h => h) (Or.inl ⟨by rfl, ?_⟩) ?_ ?_
    rotate_left
    · intro w'
      go_simp
      with_reducible rfl
    rotate_left
    · simp only [Act.put, List.setIfInBounds_toArray, List.set_cons_zero, List.set_cons_succ, i64_w, i32_w]
      rfl
    refine done_ (by kernel_rfl) ?_
    go_wp2_with fail
    have hPd := H4.out.2.1.fr0 (Fr.drew [] w4)
    have hsm := HSB.out.2.smt HSB.out.1 (by omega)
    have hrl := HSB.out.2.rl
    have hr2 := HSB.out.1.roots.1
    have HC2 := Aside0.mk (hPd.makeR (c := c2) hsm (by omega) kd ((HO3.out.2.1.1.gd (w0 := w0) HO3.out.2.1.2 (((FrP.ofFr (Fr.drew [] w3)).mono (fun k _ hk => by simp at hk)).trans (H4.out.2.2.1.trans ((FrP.ofFr (Fr.drew [] w4)).mono (fun k _ hk => by simp at hk))))).rowIn))
    have HD4 := Aside0.mk (show (w4.drew.cell? ⟨p, 0, none⟩ = some (.pointer (some ⟨g, 0, none⟩)) ∧ w4.drew.cell? ⟨p, 1, none⟩ = some (.pointer (some ⟨gx, 0, none⟩)) ∧ w4.drew.cell? ⟨b0, 1, none⟩ = some (.int .i64 kd) ∧ w4.drew.cell? ⟨b0, 2, none⟩ = some (.int .i64 ix) ∧ w4.drew.cell? ⟨b0, 4, none⟩ = some (.string tx)) from H4.out.2.2.2.drew.held)
    unfold ptr at HC2
    clear hPd hsm hrl hr2
    refine start_ (n := 13) (S := (fun w' => w'.cell? ⟨p, 0, none⟩ = some (.pointer (some ⟨g, 0, none⟩)) ∧ w'.cell? ⟨p, 1, none⟩ = some (.pointer (some ⟨gx, 0, none⟩)) ∧ w'.cell? ⟨b0, 1, none⟩ = some (.int .i64 kd) ∧ w'.cell? ⟨b0, 2, none⟩ = some (.int .i64 ix) ∧ w'.cell? ⟨b0, 4, none⟩ = some (.string tx))) (ds := []) #[false, false, false, false, false, false, false, false, false, false, false, false, false] (by kernel_rfl) rfl rfl HD4.out (fun hHeld => ?_)
    refine pure_ (i := 0) (N := some 56) (v := ?_) (a' := ?_) #[true, false, false, false, false, false, false, false, false, false, false, false, false] rfl rfl (by kernel_rfl) (fun _ _ _ h => h) (Or.inl ⟨by rfl, ?_⟩) ?_ ?_
    rotate_left
    · intro w'
      go_simp
      with_reducible rfl
    rotate_left
    · simp only [Act.put, List.setIfInBounds_toArray, List.set_cons_zero, List.set_cons_succ, i64_w, i32_w]
      rfl
    refine pure_ (i := 1) (N := some 57) (v := ?_) (a' := ?_) #[true, true, false, false, false, false, false, false, false, false, false, false, false] rfl rfl (by kernel_rfl) (fun _ _ _ h => h) (Or.inl ⟨by rfl, ?_⟩) ?_ ?_
    rotate_left
    · intro w'
      go_simp
      with_reducible rfl
    rotate_left
    · simp only [Act.put, List.setIfInBounds_toArray, List.set_cons_zero, List.set_cons_succ, i64_w, i32_w]
      rfl
    refine pure_ (i := 2) (N := some 58) (v := ?_) (a' := ?_) #[true, true, true, false, false, false, false, false, false, false, false, false, false] rfl rfl (by kernel_rfl) (fun _ _ _ h => h) (Or.inl ⟨by rfl, ?_⟩) ?_ ?_
    rotate_left
    · intro w'
      go_simp
      with_reducible rfl
    rotate_left
    · simp only [Act.put, List.setIfInBounds_toArray, List.set_cons_zero, List.set_cons_succ, i64_w, i32_w]
      rfl
    refine take_ (i := 3) (N := some 59) (v := ?_) (a' := ?_) #[true, true, true, true, false, false, false, false, false, false, false, false, false] rfl rfl (by kernel_rfl) (fun _ _ _ h => h) (Or.inl ⟨by rfl, ?_⟩) hHeld ?_ ?_
    rotate_left
    · rintro w' ⟨s0, s1, s2, s3, s4⟩
      go_simp
      with_reducible rfl
    rotate_left
    · simp only [Act.put, List.setIfInBounds_toArray, List.set_cons_zero, List.set_cons_succ, i64_w, i32_w]
      rfl
    refine pure_ (i := 4) (N := some 60) (v := ?_) (a' := ?_) #[true, true, true, true, true, false, false, false, false, false, false, false, false] rfl rfl (by kernel_rfl) (fun _ _ _ h => h) (Or.inl ⟨by rfl, ?_⟩) ?_ ?_
    rotate_left
    · intro w'
      go_simp
      with_reducible rfl
    rotate_left
    · simp only [Act.put, List.setIfInBounds_toArray, List.set_cons_zero, List.set_cons_succ, i64_w, i32_w]
      rfl
    refine take_ (i := 5) (N := some 61) (v := ?_) (a' := ?_) #[true, true, true, true, true, true, false, false, false, false, false, false, false] rfl rfl (by kernel_rfl) (fun _ _ _ h => h) (Or.inl ⟨by rfl, ?_⟩) hHeld ?_ ?_
    rotate_left
    · rintro w' ⟨s0, s1, s2, s3, s4⟩
      go_simp
      with_reducible rfl
    rotate_left
    · simp only [Act.put, List.setIfInBounds_toArray, List.set_cons_zero, List.set_cons_succ, i64_w, i32_w]
      rfl
    refine pure_ (i := 6) (N := some 62) (v := ?_) (a' := ?_) #[true, true, true, true, true, true, true, false, false, false, false, false, false] rfl rfl (by kernel_rfl) (fun _ _ _ h => h) (Or.inl ⟨by rfl, ?_⟩) ?_ ?_
    rotate_left
    · intro w'
      go_simp
      with_reducible rfl
    rotate_left
    · simp only [Act.put, List.setIfInBounds_toArray, List.set_cons_zero, List.set_cons_succ, i64_w, i32_w]
      rfl
    refine one_ (i := 7) (N := some 63) #[true, true, true, true, true, true, true, true, false, false, false, false, false] rfl rfl (by kernel_rfl) (by decide) (fun KK hK => ?_)
    refine goes_ Try.func48 (by kernel_rfl) rfl #[.pointer (some ⟨gx, 0, none⟩), .int .i64 kd, .slice A2 b.length c2] (by rfl) rfl rfl (by simp only [List.map_toArray, List.map_cons, List.map_nil]; rfl) ?_
    refine HC2.out.mono ?_
    rintro e w5 ⟨r2, er2, M2, k2, hp2, rfl, hm2, hf2⟩
    have hd5 := H4.out.2.2.2.drew.step hf2
    have hsi := HSB.out.1.make HSB.out.2 (by omega) HP3.out.tapart HO3.out.2.2.1 H4.out.1 hp2
    obtain ⟨rfl, ρ2, hs5, hb5, hw5⟩ := hsi
    refine ⟨_, rfl, ?_⟩
    refine hK.out _ _ hd5.held (fun hHeld => ?_)
    clear hK KK
    refine norm_ (a' := ?_) ?_ ?_
    rotate_left
    · show Act.put _ (some 63) _ = _
      simp only [Act.put, List.setIfInBounds_toArray, List.set_cons_zero, List.set_cons_succ, i64_w, i32_w]
      rfl
    have H5 := Aside0.mk (And.intro hm2 (And.intro hd5 (And.intro hs5 (And.intro hb5 hw5))))
    clear hp2 hm2 hf2 hd5 hs5 hb5 hw5 HC2
    refine pure_ (i := 8) (N := some 55) (v := ?_) (a' := ?_) #[true, true, true, true, true, true, true, true, true, false, false, false, false] rfl rfl (by kernel_rfl) (fun _ _ _ h => h) (Or.inl ⟨by rfl, ?_⟩) ?_ ?_
    rotate_left
    · intro w'
      go_simp
      with_reducible rfl
    rotate_left
    · simp only [Act.put, List.setIfInBounds_toArray, List.set_cons_zero, List.set_cons_succ, i64_w, i32_w]
      rfl
    refine pure_ (i := 9) (N := some 64) (v := ?_) (a' := ?_) #[true, true, true, true, true, true, true, true, true, true, false, false, false] rfl rfl (by kernel_rfl) (fun _ _ _ h => h) (Or.inl ⟨by rfl, ?_⟩) ?_ ?_
    rotate_left
    · intro w'
      go_simp
      with_reducible rfl
    rotate_left
    · simp only [Act.put, List.setIfInBounds_toArray, List.set_cons_zero, List.set_cons_succ, i64_w, i32_w]
      rfl
    refine pure_ (i := 10) (N := some 65) (v := ?_) (a' := ?_) #[true, true, true, true, true, true, true, true, true, true, true, false, false] rfl rfl (by kernel_rfl) (fun _ _ _ h => h) (Or.inl ⟨by rfl, ?_⟩) ?_ ?_
    rotate_left
    · intro w'
      go_simp
      with_reducible rfl
    rotate_left
    · simp only [Act.put, List.setIfInBounds_toArray, List.set_cons_zero, List.set_cons_succ, i64_w, i32_w]
      rfl
    refine pure_ (i := 11) (N := some 11) (v := ?_) (a' := ?_) #[true, true, true, true, true, true, true, true, true, true, true, true, false] rfl rfl (by kernel_rfl) (fun _ _ _ h => h) (Or.inl ⟨by rfl, ?_⟩) ?_ ?_
    rotate_left
    · intro w'
      go_simp
      with_reducible rfl
    rotate_left
    · simp only [Act.put, List.setIfInBounds_toArray, List.set_cons_zero, List.set_cons_succ, i64_w, i32_w]
      rfl
    refine pure_ (i := 12) (N := some 12) (v := ?_) (a' := ?_) #[true, true, true, true, true, true, true, true, true, true, true, true, true] rfl rfl (by kernel_rfl) (fun _ _ _ h => h) (Or.inl ⟨by rfl, ?_⟩) ?_ ?_
    rotate_left
    · intro w'
      go_simp
      with_reducible rfl
    rotate_left
    · simp only [Act.put, List.setIfInBounds_toArray, List.set_cons_zero, List.set_cons_succ, i64_w, i32_w]
      rfl
    refine done_ (by kernel_rfl) ?_
    go_wp2_with fail
    have HPB := Aside0.mk (push_both (er := er1) H5.out.1 H5.out.2.2.1 H5.out.2.2.2.1 (by omega) H5.out.2.1.pr H5.out.2.1.pk H5.out.2.2.2.2)
    unfold ptr at HPB
    refine HPB.out.mono ?_
    rintro e w6 ⟨rfl, h6, k6, hm6, hs6, hb6, hf6⟩
    have H6 := Aside0.mk (And.intro hm6 (And.intro hs6 (And.intro hb6 hf6)))
    clear hm6 hs6 hb6 hf6 HPB
    go_wp2_with fail
    go_returns
    exact (H5.out.2.1.step H6.out.2.2.2).fin H6.out.1 H6.out.2.1 H6.out.2.2.1
  · have t0 : (wrap64 ((IntKind.u64.wrap op).tmod 9) == 0) = false := by rw [hrr, show wrap64 2 = 2 by unfold wrap64; omega]; decide
    have t1 : (wrap64 ((IntKind.u64.wrap op).tmod 9) == 1) = false := by rw [hrr, show wrap64 2 = 2 by unfold wrap64; omega]; decide
    have t2 : (wrap64 ((IntKind.u64.wrap op).tmod 9) == 2) = true := by rw [hrr, show wrap64 2 = 2 by unfold wrap64; omega]; decide
    clear hrr HR
    go_wp2_with fail
    have hPd := HP3.out.fr0 (Fr.drew [] w3)
    have hsm := HSB.out.2.sm HSB.out.1 (by omega)
    have hh0 := HSB.out.1.has0
    have hll := HSB.out.2.ll
    have hnx := HSB.out.2.nx
    have HC1 := Aside0.mk (hPd.makeL (c := c1) hsm (by have := HSB.out.2.rl; omega) (by omega) (by omega) kd (HO3.out.1.1.gd (w0 := w0) HO3.out.1.2 ((FrP.ofFr (Fr.drew [] w3)).mono (fun k _ hk => by simp at hk))).rowIn (by have := HAL.out; omega))
    have HD3 := Aside0.mk (show (w3.drew.cell? ⟨p, 0, none⟩ = some (.pointer (some ⟨g, 0, none⟩)) ∧ w3.drew.cell? ⟨p, 1, none⟩ = some (.pointer (some ⟨gx, 0, none⟩)) ∧ w3.drew.cell? ⟨b0, 1, none⟩ = some (.int .i64 kd) ∧ w3.drew.cell? ⟨b0, 2, none⟩ = some (.int .i64 ix) ∧ w3.drew.cell? ⟨b0, 4, none⟩ = some (.string tx)) from HDS.out.drew.held)
    unfold ptr at HC1
    clear hPd hsm hh0 hll hnx k0
    refine start_ (n := 13) (S := (fun w' => w'.cell? ⟨p, 0, none⟩ = some (.pointer (some ⟨g, 0, none⟩)) ∧ w'.cell? ⟨p, 1, none⟩ = some (.pointer (some ⟨gx, 0, none⟩)) ∧ w'.cell? ⟨b0, 1, none⟩ = some (.int .i64 kd) ∧ w'.cell? ⟨b0, 2, none⟩ = some (.int .i64 ix) ∧ w'.cell? ⟨b0, 4, none⟩ = some (.string tx))) (ds := []) #[false, false, false, false, false, false, false, false, false, false, false, false, false] (by kernel_rfl) rfl rfl HD3.out (fun hHeld => ?_)
    refine pure_ (i := 0) (N := some 45) (v := ?_) (a' := ?_) #[true, false, false, false, false, false, false, false, false, false, false, false, false] rfl rfl (by kernel_rfl) (fun _ _ _ h => h) (Or.inl ⟨by rfl, ?_⟩) ?_ ?_
    rotate_left
    · intro w'
      go_simp
      with_reducible rfl
    rotate_left
    · simp only [Act.put, List.setIfInBounds_toArray, List.set_cons_zero, List.set_cons_succ, i64_w, i32_w]
      rfl
    refine pure_ (i := 1) (N := some 46) (v := ?_) (a' := ?_) #[true, true, false, false, false, false, false, false, false, false, false, false, false] rfl rfl (by kernel_rfl) (fun _ _ _ h => h) (Or.inl ⟨by rfl, ?_⟩) ?_ ?_
    rotate_left
    · intro w'
      go_simp
      with_reducible rfl
    rotate_left
    · simp only [Act.put, List.setIfInBounds_toArray, List.set_cons_zero, List.set_cons_succ, i64_w, i32_w]
      rfl
    refine pure_ (i := 2) (N := some 47) (v := ?_) (a' := ?_) #[true, true, true, false, false, false, false, false, false, false, false, false, false] rfl rfl (by kernel_rfl) (fun _ _ _ h => h) (Or.inl ⟨by rfl, ?_⟩) ?_ ?_
    rotate_left
    · intro w'
      go_simp
      with_reducible rfl
    rotate_left
    · simp only [Act.put, List.setIfInBounds_toArray, List.set_cons_zero, List.set_cons_succ, i64_w, i32_w]
      rfl
    refine take_ (i := 3) (N := some 48) (v := ?_) (a' := ?_) #[true, true, true, true, false, false, false, false, false, false, false, false, false] rfl rfl (by kernel_rfl) (fun _ _ _ h => h) (Or.inl ⟨by rfl, ?_⟩) hHeld ?_ ?_
    rotate_left
    · rintro w' ⟨s0, s1, s2, s3, s4⟩
      go_simp
      with_reducible rfl
    rotate_left
    · simp only [Act.put, List.setIfInBounds_toArray, List.set_cons_zero, List.set_cons_succ, i64_w, i32_w]
      rfl
    refine pure_ (i := 4) (N := some 49) (v := ?_) (a' := ?_) #[true, true, true, true, true, false, false, false, false, false, false, false, false] rfl rfl (by kernel_rfl) (fun _ _ _ h => h) (Or.inl ⟨by rfl, ?_⟩) ?_ ?_
    rotate_left
    · intro w'
      go_simp
      with_reducible rfl
    rotate_left
    · simp only [Act.put, List.setIfInBounds_toArray, List.set_cons_zero, List.set_cons_succ, i64_w, i32_w]
      rfl
    refine take_ (i := 5) (N := some 50) (v := ?_) (a' := ?_) #[true, true, true, true, true, true, false, false, false, false, false, false, false] rfl rfl (by kernel_rfl) (fun _ _ _ h => h) (Or.inl ⟨by rfl, ?_⟩) hHeld ?_ ?_
    rotate_left
    · rintro w' ⟨s0, s1, s2, s3, s4⟩
      go_simp
      with_reducible rfl
    rotate_left
    · simp only [Act.put, List.setIfInBounds_toArray, List.set_cons_zero, List.set_cons_succ, i64_w, i32_w]
      rfl
    refine pure_ (i := 6) (N := some 51) (v := ?_) (a' := ?_) #[true, true, true, true, true, true, true, false, false, false, false, false, false] rfl rfl (by kernel_rfl) (fun _ _ _ h => h) (Or.inl ⟨by rfl, ?_⟩) ?_ ?_
    rotate_left
    · intro w'
      go_simp
      with_reducible rfl
    rotate_left
    · simp only [Act.put, List.setIfInBounds_toArray, List.set_cons_zero, List.set_cons_succ, i64_w, i32_w]
      rfl
    refine one_ (i := 7) (N := some 52) #[true, true, true, true, true, true, true, true, false, false, false, false, false] rfl rfl (by kernel_rfl) (by decide) (fun KK hK => ?_)
    refine goes_ Try.func10 (by kernel_rfl) rfl #[.pointer (some ⟨g, 0, none⟩), .int .i64 kd, .slice A1 a.length c1] (by rfl) rfl rfl (by simp only [List.map_toArray, List.map_cons, List.map_nil]; rfl) ?_
    refine HC1.out.mono ?_
    rintro e w4 ⟨r1, er1, L1, h1, hp1, rfl, hm1, hf1⟩
    have hd4 := HDS.out.drew.step hf1
    refine ⟨_, rfl, ?_⟩
    refine hK.out _ _ hd4.held (fun hHeld => ?_)
    clear hK KK
    refine norm_ (a' := ?_) ?_ ?_
    rotate_left
    · show Act.put _ (some 52) _ = _
      simp only [Act.put, List.setIfInBounds_toArray, List.set_cons_zero, List.set_cons_succ, i64_w, i32_w]
      rfl
    have H4 := Aside0.mk (And.intro hp1 (And.intro hm1 (And.intro hf1 hd4)))
    clear hp1 hm1 hf1 hd4 HC1
    refine pure_ (i := 8) (N := some 44) (v := ?_) (a' := ?_) #[true, true, true, true, true, true, true, true, true, false, false, false, false] rfl rfl (by kernel_rfl) (fun _ _ _ h => h) (Or.inl ⟨by rfl, ?_⟩) ?_ ?_
    rotate_left
    · intro w'
      go_simp
      with_reducible rfl
    rotate_left
    · simp only [Act.put, List.setIfInBounds_toArray, List.set_cons_zero, List.set_cons_succ, i64_w, i32_w]
      rfl
    refine pure_ (i := 9) (N := some 53) (v := ?_) (a' := ?_) #[true, true, true, true, true, true, true, true, true, true, false, false, false] rfl rfl (by kernel_rfl) (fun _ _ _ h => h) (Or.inl ⟨by rfl, ?_⟩) ?_ ?_
    rotate_left
    · intro w'
      go_simp
      with_reducible rfl
    rotate_left
    · simp only [Act.put, List.setIfInBounds_toArray, List.set_cons_zero, List.set_cons_succ, i64_w, i32_w]
      rfl
    refine pure_ (i := 10) (N := some 54) (v := ?_) (a' := ?_) #[true, true, true, true, true, true, true, true, true, true, true, false, false] rfl rfl (by kernel_rfl) (fun _ _ _ h => h) (Or.inl ⟨by rfl, ?_⟩) ?_ ?_
    rotate_left
    · intro w'
      go_simp
      with_reducible rfl
    rotate_left
    · simp only [Act.put, List.setIfInBounds_toArray, List.set_cons_zero, List.set_cons_succ, i64_w, i32_w]
      rfl
    refine pure_ (i := 11) (N := some 9) (v := ?_) (a' := ?_) #[true, true, true, true, true, true, true, true, true, true, true, true, false] rfl rfl (by kernel_rfl) (fun _ _ _ h => h) (Or.inl ⟨by rfl, ?_⟩) ?_ ?_
    rotate_left
    · intro w'
      go_simp
      with_reducible rfl
    rotate_left
    · simp only [Act.put, List.setIfInBounds_toArray, List.set_cons_zero, List.set_cons_succ, i64_w, i32_w]
      rfl
    refine pure_ (i := 12) (N := some 10) (v := ?_) (a' := ?_) #[true, true, true, true, true, true, true, true, true, true, true, true, true] rfl rfl (by kernel_rfl) (fun _ _ _ h => h) (Or.inl ⟨by rfl, ?_⟩) ?_ ?_
    rotate_left
    · intro w'
      go_simp
      with_reducible rfl
    rotate_left
    · simp only [Act.put, List.setIfInBounds_toArray, List.set_cons_zero, List.set_cons_succ, i64_w, i32_w]
      rfl
    refine done_ (by kernel_rfl) ?_
    go_wp2_with fail
    have hPd := H4.out.2.1.fr0 (Fr.drew [] w4)
    have hsm := HSB.out.2.smt HSB.out.1 (by omega)
    have hrl := HSB.out.2.rl
    have hr2 := HSB.out.1.roots.1
    have HC2 := Aside0.mk (hPd.makeR (c := c2) hsm (by omega) kd ((HO3.out.2.1.1.gd (w0 := w0) HO3.out.2.1.2 (((FrP.ofFr (Fr.drew [] w3)).mono (fun k _ hk => by simp at hk)).trans (H4.out.2.2.1.trans ((FrP.ofFr (Fr.drew [] w4)).mono (fun k _ hk => by simp at hk))))).rowIn))
    have HD4 := Aside0.mk (show (w4.drew.cell? ⟨p, 0, none⟩ = some (.pointer (some ⟨g, 0, none⟩)) ∧ w4.drew.cell? ⟨p, 1, none⟩ = some (.pointer (some ⟨gx, 0, none⟩)) ∧ w4.drew.cell? ⟨b0, 1, none⟩ = some (.int .i64 kd) ∧ w4.drew.cell? ⟨b0, 2, none⟩ = some (.int .i64 ix) ∧ w4.drew.cell? ⟨b0, 4, none⟩ = some (.string tx)) from H4.out.2.2.2.drew.held)
    unfold ptr at HC2
    clear hPd hsm hrl hr2
    refine start_ (n := 13) (S := (fun w' => w'.cell? ⟨p, 0, none⟩ = some (.pointer (some ⟨g, 0, none⟩)) ∧ w'.cell? ⟨p, 1, none⟩ = some (.pointer (some ⟨gx, 0, none⟩)) ∧ w'.cell? ⟨b0, 1, none⟩ = some (.int .i64 kd) ∧ w'.cell? ⟨b0, 2, none⟩ = some (.int .i64 ix) ∧ w'.cell? ⟨b0, 4, none⟩ = some (.string tx))) (ds := []) #[false, false, false, false, false, false, false, false, false, false, false, false, false] (by kernel_rfl) rfl rfl HD4.out (fun hHeld => ?_)
    refine pure_ (i := 0) (N := some 56) (v := ?_) (a' := ?_) #[true, false, false, false, false, false, false, false, false, false, false, false, false] rfl rfl (by kernel_rfl) (fun _ _ _ h => h) (Or.inl ⟨by rfl, ?_⟩) ?_ ?_
    rotate_left
    · intro w'
      go_simp
      with_reducible rfl
    rotate_left
    · simp only [Act.put, List.setIfInBounds_toArray, List.set_cons_zero, List.set_cons_succ, i64_w, i32_w]
      rfl
    refine pure_ (i := 1) (N := some 57) (v := ?_) (a' := ?_) #[true, true, false, false, false, false, false, false, false, false, false, false, false] rfl rfl (by kernel_rfl) (fun _ _ _ h => h) (Or.inl ⟨by rfl, ?_⟩) ?_ ?_
    rotate_left
    · intro w'
      go_simp
      with_reducible rfl
    rotate_left
    · simp only [Act.put, List.setIfInBounds_toArray, List.set_cons_zero, List.set_cons_succ, i64_w, i32_w]
      rfl
    refine pure_ (i := 2) (N := some 58) (v := ?_) (a' := ?_) #[true, true, true, false, false, false, false, false, false, false, false, false, false] rfl rfl (by kernel_rfl) (fun _ _ _ h => h) (Or.inl ⟨by rfl, ?_⟩) ?_ ?_
    rotate_left
    · intro w'
      go_simp
      with_reducible rfl
    rotate_left
    · simp only [Act.put, List.setIfInBounds_toArray, List.set_cons_zero, List.set_cons_succ, i64_w, i32_w]
      rfl
    refine take_ (i := 3) (N := some 59) (v := ?_) (a' := ?_) #[true, true, true, true, false, false, false, false, false, false, false, false, false] rfl rfl (by kernel_rfl) (fun _ _ _ h => h) (Or.inl ⟨by rfl, ?_⟩) hHeld ?_ ?_
    rotate_left
    · rintro w' ⟨s0, s1, s2, s3, s4⟩
      go_simp
      with_reducible rfl
    rotate_left
    · simp only [Act.put, List.setIfInBounds_toArray, List.set_cons_zero, List.set_cons_succ, i64_w, i32_w]
      rfl
    refine pure_ (i := 4) (N := some 60) (v := ?_) (a' := ?_) #[true, true, true, true, true, false, false, false, false, false, false, false, false] rfl rfl (by kernel_rfl) (fun _ _ _ h => h) (Or.inl ⟨by rfl, ?_⟩) ?_ ?_
    rotate_left
    · intro w'
      go_simp
      with_reducible rfl
    rotate_left
    · simp only [Act.put, List.setIfInBounds_toArray, List.set_cons_zero, List.set_cons_succ, i64_w, i32_w]
      rfl
    refine take_ (i := 5) (N := some 61) (v := ?_) (a' := ?_) #[true, true, true, true, true, true, false, false, false, false, false, false, false] rfl rfl (by kernel_rfl) (fun _ _ _ h => h) (Or.inl ⟨by rfl, ?_⟩) hHeld ?_ ?_
    rotate_left
    · rintro w' ⟨s0, s1, s2, s3, s4⟩
      go_simp
      with_reducible rfl
    rotate_left
    · simp only [Act.put, List.setIfInBounds_toArray, List.set_cons_zero, List.set_cons_succ, i64_w, i32_w]
      rfl
    refine pure_ (i := 6) (N := some 62) (v := ?_) (a' := ?_) #[true, true, true, true, true, true, true, false, false, false, false, false, false] rfl rfl (by kernel_rfl) (fun _ _ _ h => h) (Or.inl ⟨by rfl, ?_⟩) ?_ ?_
    rotate_left
    · intro w'
      go_simp
      with_reducible rfl
    rotate_left
    · simp only [Act.put, List.setIfInBounds_toArray, List.set_cons_zero, List.set_cons_succ, i64_w, i32_w]
      rfl
    refine one_ (i := 7) (N := some 63) #[true, true, true, true, true, true, true, true, false, false, false, false, false] rfl rfl (by kernel_rfl) (by decide) (fun KK hK => ?_)
    refine goes_ Try.func48 (by kernel_rfl) rfl #[.pointer (some ⟨gx, 0, none⟩), .int .i64 kd, .slice A2 b.length c2] (by rfl) rfl rfl (by simp only [List.map_toArray, List.map_cons, List.map_nil]; rfl) ?_
    refine HC2.out.mono ?_
    rintro e w5 ⟨r2, er2, M2, k2, hp2, rfl, hm2, hf2⟩
    have hd5 := H4.out.2.2.2.drew.step hf2
    have hsi := HSB.out.1.make HSB.out.2 (by omega) HP3.out.tapart HO3.out.2.2.1 H4.out.1 hp2
    obtain ⟨rfl, ρ2, hs5, hb5, hw5⟩ := hsi
    refine ⟨_, rfl, ?_⟩
    refine hK.out _ _ hd5.held (fun hHeld => ?_)
    clear hK KK
    refine norm_ (a' := ?_) ?_ ?_
    rotate_left
    · show Act.put _ (some 63) _ = _
      simp only [Act.put, List.setIfInBounds_toArray, List.set_cons_zero, List.set_cons_succ, i64_w, i32_w]
      rfl
    have H5 := Aside0.mk (And.intro hm2 (And.intro hd5 (And.intro hs5 (And.intro hb5 hw5))))
    clear hp2 hm2 hf2 hd5 hs5 hb5 hw5 HC2
    refine pure_ (i := 8) (N := some 55) (v := ?_) (a' := ?_) #[true, true, true, true, true, true, true, true, true, false, false, false, false] rfl rfl (by kernel_rfl) (fun _ _ _ h => h) (Or.inl ⟨by rfl, ?_⟩) ?_ ?_
    rotate_left
    · intro w'
      go_simp
      with_reducible rfl
    rotate_left
    · simp only [Act.put, List.setIfInBounds_toArray, List.set_cons_zero, List.set_cons_succ, i64_w, i32_w]
      rfl
    refine pure_ (i := 9) (N := some 64) (v := ?_) (a' := ?_) #[true, true, true, true, true, true, true, true, true, true, false, false, false] rfl rfl (by kernel_rfl) (fun _ _ _ h => h) (Or.inl ⟨by rfl, ?_⟩) ?_ ?_
    rotate_left
    · intro w'
      go_simp
      with_reducible rfl
    rotate_left
    · simp only [Act.put, List.setIfInBounds_toArray, List.set_cons_zero, List.set_cons_succ, i64_w, i32_w]
      rfl
    refine pure_ (i := 10) (N := some 65) (v := ?_) (a' := ?_) #[true, true, true, true, true, true, true, true, true, true, true, false, false] rfl rfl (by kernel_rfl) (fun _ _ _ h => h) (Or.inl ⟨by rfl, ?_⟩) ?_ ?_
    rotate_left
    · intro w'
      go_simp
      with_reducible rfl
    rotate_left
    · simp only [Act.put, List.setIfInBounds_toArray, List.set_cons_zero, List.set_cons_succ, i64_w, i32_w]
      rfl
    refine pure_ (i := 11) (N := some 11) (v := ?_) (a' := ?_) #[true, true, true, true, true, true, true, true, true, true, true, true, false] rfl rfl (by kernel_rfl) (fun _ _ _ h => h) (Or.inl ⟨by rfl, ?_⟩) ?_ ?_
    rotate_left
    · intro w'
      go_simp
      with_reducible rfl
    rotate_left
    · simp only [Act.put, List.setIfInBounds_toArray, List.set_cons_zero, List.set_cons_succ, i64_w, i32_w]
      rfl
    refine pure_ (i := 12) (N := some 12) (v := ?_) (a' := ?_) #[true, true, true, true, true, true, true, true, true, true, true, true, true] rfl rfl (by kernel_rfl) (fun _ _ _ h => h) (Or.inl ⟨by rfl, ?_⟩) ?_ ?_
    rotate_left
    · intro w'
      go_simp
      with_reducible rfl
    rotate_left
    · simp only [Act.put, List.setIfInBounds_toArray, List.set_cons_zero, List.set_cons_succ, i64_w, i32_w]
      rfl
    refine done_ (by kernel_rfl) ?_
    go_wp2_with fail
    have HPB := Aside0.mk (push_both (er := er1) H5.out.1 H5.out.2.2.1 H5.out.2.2.2.1 (by omega) H5.out.2.1.pr H5.out.2.1.pk H5.out.2.2.2.2)
    unfold ptr at HPB
    refine HPB.out.mono ?_
    rintro e w6 ⟨rfl, h6, k6, hm6, hs6, hb6, hf6⟩
    have H6 := Aside0.mk (And.intro hm6 (And.intro hs6 (And.intro hb6 hf6)))
    clear hm6 hs6 hb6 hf6 HPB
    go_wp2_with fail
    go_returns
    exact (H5.out.2.1.step H6.out.2.2.2).fin H6.out.1 H6.out.2.1 H6.out.2.2.1
set_option maxRecDepth 100000 in
set_option maxHeartbeats 4000000 in
theorem does_text (P : PM w0 w K g gx L h M k) (s : Sim ρ L h M k) (bd : Bnd n L h M k) (hn : n ≤ 900) (hpr : PrAt w p g gx) (hpK : p ∈ K) {A : Option Addr} {c : Nat} {xs : List Int} (hxs : IntsAt w A xs) (hxl : xs.length ≤ 10000000) (op kd ix : Int) (tx : ByteArray) (htx : tx.size ≤ 1000000000) (hr : (IntKind.u64.wrap op).tmod 9 = 3) :
    Calls Try.prog 25 #[ptr p, .agg #[.int .i64 op, .int .i64 kd, .int .i64 ix, .slice A xs.length c, .string tx]] w (DoesOk w0 w K g gx n) := by
  have hb0 : Below w.heap.size w (w.alloc (.cells #[.int .i64 op, .int .i64 kd, .int .i64 ix, .slice A xs.length c, .string tx] 59)) := (Below.refl _ _).alloc (Nat.le_refl _) _
  have hbox0 := heap_alloc_new w (.cells #[.int .i64 op, .int .i64 kd, .int .i64 ix, .slice A xs.length c, .string tx] 59)
  have HWD := Aside0.mk (words_calls (c := c) (P.new hb0) s (by have := bd.rl; omega) (hpr.new hb0) (hxs.new hb0) hxl)
  have HP := Aside0.mk P
  have HSB := Aside0.mk (And.intro s bd)
  have HPR := Aside0.mk (And.intro hpr hpK)
  have HB0 := Aside0.mk (And.intro hb0 hbox0)
  have HR := Aside0.mk hr
  unfold ptr
  unfold ptr at HWD
  clear P s hpr hpK hb0 hbox0 hr hxs
  go_enter Try.func25, Try.ntmps25
  go_wp2_with fail
  refine HWD.out.mono ?_
  rintro e w2 ⟨A1, c1, A2, c2, a, b, rfl, hab, hal, ho1, ho2, hb2⟩
  have hbA := HB0.out.1.trans (Below.mono hb2 HB0.out.1.size)
  have hPw := HP.out.new hbA
  have hprw := HPR.out.1.new hbA
  have HD := Aside0.mk (word_calls hPw HSB.out.1 (by have := bd.rl; omega) hprw ix)
  have hbx2 := (FrP.ofBelow hb2).get HB0.out.2 (by simp)
  have k2 : w2.cell? ⟨w.heap.size, 2, none⟩ = some (.int .i64 ix) := (blk_cell hbx2 2).trans rfl
  have H2 := Aside0.mk (show Below w.heap.size w w2 ∧ w2.heap[w.heap.size]? = some (.cells #[.int .i64 op, .int .i64 kd, .int .i64 ix, .slice A xs.length c, .string tx] 59 (0, 0)) from ⟨hbA, hbx2⟩)
  have HO := Aside0.mk (And.intro (And.intro ho1 ho2) hab)
  unfold ptr at HD
  have HAL0 := Aside0.mk hal
  clear hbA hPw hprw hbx2 ho1 ho2 hb2 hab hal HWD
  go_wp2_with fail
  refine HD.out.mono ?_
  rintro e w3 ⟨u, v, rfl, huv, hf3⟩
  have hb3 : Below w.heap.size w w3 := H2.out.1.trans ((FrP.ofFr hf3).below H2.out.1.size (fun i hi => by simp at hi))
  have ho1 := HO.out.1.1.frp (FrP.ofFr hf3) (fun k _ => by simp)
  have ho2 := HO.out.1.2.frp (FrP.ofFr hf3) (fun k _ => by simp)
  have hsA := HB0.out.1.size
  have hbx3 := hf3.get H2.out.2 (by simp)
  have k0 : w3.cell? ⟨w.heap.size, 0, none⟩ = some (.int .i64 op) := (blk_cell hbx3 0).trans rfl
  obtain ⟨K1, hK1⟩ : ∃ K1, K1 = (w.heap.size :: (blks A1 ++ blks A2)) ++ K := ⟨_, rfl⟩
  have hP3 : PM w0 w3 K1 g gx L h M k := by
    rw [hK1]
    refine HP.out.guard hb3 _ (fun j hj => ?_)
    rcases List.mem_cons.1 hj with rfl | hj
    · exact ⟨Nat.le_refl _, blk_lt hbx3⟩
    · rcases List.mem_append.1 hj with hj | hj
      · have := ho1.blk j hj; exact ⟨by omega, this.2⟩
      · have := ho2.blk j hj; exact ⟨by omega, this.2⟩
  have hds : DS w0 w w3 K K1 p g gx w.heap.size op kd ix (.slice A xs.length c) tx :=
    ⟨fun j hj => by rw [hK1]; simp [hj], FrP.new hb3 _, HPR.out.1.new hb3, by rw [hK1]; simp [HPR.out.2], hbx3, by rw [hK1]; simp⟩
  have HO3 := Aside0.mk (show (OwnW w3 (w.alloc (.cells #[.int .i64 op, .int .i64 kd, .int .i64 ix, .slice A xs.length c, .string tx] 59)).heap.size A1 c1 a ∧ ∀ j ∈ blks A1, j ∈ K1) ∧ (OwnW w3 (w.alloc (.cells #[.int .i64 op, .int .i64 kd, .int .i64 ix, .slice A xs.length c, .string tx] 59)).heap.size A2 c2 b ∧ ∀ j ∈ blks A2, j ∈ K1) ∧ All2 (WX ρ) a b ∧ WX ρ u v from
    ⟨⟨ho1, fun j hj => by rw [hK1]; simp [hj]⟩, ⟨ho2, fun j hj => by rw [hK1]; simp [hj]⟩, HO.out.2, huv⟩)
  have HP3 := Aside0.mk hP3
  have HDS := Aside0.mk hds
  have HAL := Aside0.mk (And.intro HAL0.out HO.out.2.1)
  obtain ⟨b0, hb0⟩ : ∃ b0, b0 = w.heap.size := ⟨_, rfl⟩
  rw [← hb0] at k0 HDS ⊢
  clear hb3 ho1 ho2 hsA hbx3 hK1 hP3 hds huv hf3 HD HO H2 HB0 HP HPR hb0
  have hrr := HR.out
  · have t0 : (wrap64 ((IntKind.u64.wrap op).tmod 9) == 0) = false := by rw [hrr, show wrap64 3 = 3 by unfold wrap64; omega]; decide
    have t1 : (wrap64 ((IntKind.u64.wrap op).tmod 9) == 1) = false := by rw [hrr, show wrap64 3 = 3 by unfold wrap64; omega]; decide
    have t2 : (wrap64 ((IntKind.u64.wrap op).tmod 9) == 2) = false := by rw [hrr, show wrap64 3 = 3 by unfold wrap64; omega]; decide
    have t3 : (wrap64 ((IntKind.u64.wrap op).tmod 9) == 3) = true := by rw [hrr, show wrap64 3 = 3 by unfold wrap64; omega]; decide
    clear hrr HR
    go_wp2_with fail
    have hPd := HP3.out.fr0 (Fr.drew [] w3)
    have hsm := HSB.out.2.sm HSB.out.1 (by omega)
    have hh0 := HSB.out.1.has0
    have hll := HSB.out.2.ll
    have hnx := HSB.out.2.nx
    have HC1 := Aside0.mk (hPd.txL hsm (by have := HSB.out.2.rl; omega) (by omega) (by omega) kd tx)
    have HD3 := Aside0.mk (show (w3.drew.cell? ⟨p, 0, none⟩ = some (.pointer (some ⟨g, 0, none⟩)) ∧ w3.drew.cell? ⟨p, 1, none⟩ = some (.pointer (some ⟨gx, 0, none⟩)) ∧ w3.drew.cell? ⟨b0, 1, none⟩ = some (.int .i64 kd) ∧ w3.drew.cell? ⟨b0, 2, none⟩ = some (.int .i64 ix) ∧ w3.drew.cell? ⟨b0, 4, none⟩ = some (.string tx)) from HDS.out.drew.held)
    unfold ptr at HC1
    clear hPd hsm hh0 hll hnx k0
    refine start_ (n := 14) (S := (fun w' => w'.cell? ⟨p, 0, none⟩ = some (.pointer (some ⟨g, 0, none⟩)) ∧ w'.cell? ⟨p, 1, none⟩ = some (.pointer (some ⟨gx, 0, none⟩)) ∧ w'.cell? ⟨b0, 1, none⟩ = some (.int .i64 kd) ∧ w'.cell? ⟨b0, 2, none⟩ = some (.int .i64 ix) ∧ w'.cell? ⟨b0, 4, none⟩ = some (.string tx))) (ds := []) #[false, false, false, false, false, false, false, false, false, false, false, false, false, false] (by kernel_rfl) rfl rfl HD3.out (fun hHeld => ?_)
    refine pure_ (i := 0) (N := some 75) (v := ?_) (a' := ?_) #[true, false, false, false, false, false, false, false, false, false, false, false, false, false] rfl rfl (by kernel_rfl) (fun _ _ _ h => h) (Or.inl ⟨by rfl, ?_⟩) ?_ ?_
    rotate_left
    · intro w'
      go_simp
      with_reducible rfl
    rotate_left
    · simp only [Act.put, List.setIfInBounds_toArray, List.set_cons_zero, List.set_cons_succ, i64_w, i32_w]
      rfl
    refine pure_ (i := 1) (N := some 76) (v := ?_) (a' := ?_) #[true, true, false, false, false, false, false, false, false, false, false, false, false, false] rfl rfl (by kernel_rfl) (fun _ _ _ h => h) (Or.inl ⟨by rfl, ?_⟩) ?_ ?_
    rotate_left
    · intro w'
      go_simp
      with_reducible rfl
    rotate_left
    · simp only [Act.put, List.setIfInBounds_toArray, List.set_cons_zero, List.set_cons_succ, i64_w, i32_w]
      rfl
    refine pure_ (i := 2) (N := some 77) (v := ?_) (a' := ?_) #[true, true, true, false, false, false, false, false, false, false, false, false, false, false] rfl rfl (by kernel_rfl) (fun _ _ _ h => h) (Or.inl ⟨by rfl, ?_⟩) ?_ ?_
    rotate_left
    · intro w'
      go_simp
      with_reducible rfl
    rotate_left
    · simp only [Act.put, List.setIfInBounds_toArray, List.set_cons_zero, List.set_cons_succ, i64_w, i32_w]
      rfl
    refine take_ (i := 3) (N := some 78) (v := ?_) (a' := ?_) #[true, true, true, true, false, false, false, false, false, false, false, false, false, false] rfl rfl (by kernel_rfl) (fun _ _ _ h => h) (Or.inl ⟨by rfl, ?_⟩) hHeld ?_ ?_
    rotate_left
    · rintro w' ⟨s0, s1, s2, s3, s4⟩
      go_simp
      with_reducible rfl
    rotate_left
    · simp only [Act.put, List.setIfInBounds_toArray, List.set_cons_zero, List.set_cons_succ, i64_w, i32_w]
      rfl
    refine pure_ (i := 4) (N := some 79) (v := ?_) (a' := ?_) #[true, true, true, true, true, false, false, false, false, false, false, false, false, false] rfl rfl (by kernel_rfl) (fun _ _ _ h => h) (Or.inl ⟨by rfl, ?_⟩) ?_ ?_
    rotate_left
    · intro w'
      go_simp
      with_reducible rfl
    rotate_left
    · simp only [Act.put, List.setIfInBounds_toArray, List.set_cons_zero, List.set_cons_succ, i64_w, i32_w]
      rfl
    refine take_ (i := 5) (N := some 80) (v := ?_) (a' := ?_) #[true, true, true, true, true, true, false, false, false, false, false, false, false, false] rfl rfl (by kernel_rfl) (fun _ _ _ h => h) (Or.inl ⟨by rfl, ?_⟩) hHeld ?_ ?_
    rotate_left
    · rintro w' ⟨s0, s1, s2, s3, s4⟩
      go_simp
      with_reducible rfl
    rotate_left
    · simp only [Act.put, List.setIfInBounds_toArray, List.set_cons_zero, List.set_cons_succ, i64_w, i32_w]
      rfl
    refine pure_ (i := 6) (N := some 81) (v := ?_) (a' := ?_) #[true, true, true, true, true, true, true, false, false, false, false, false, false, false] rfl rfl (by kernel_rfl) (fun _ _ _ h => h) (Or.inl ⟨by rfl, ?_⟩) ?_ ?_
    rotate_left
    · intro w'
      go_simp
      with_reducible rfl
    rotate_left
    · simp only [Act.put, List.setIfInBounds_toArray, List.set_cons_zero, List.set_cons_succ, i64_w, i32_w]
      rfl
    refine take_ (i := 7) (N := some 82) (v := ?_) (a' := ?_) #[true, true, true, true, true, true, true, true, false, false, false, false, false, false] rfl rfl (by kernel_rfl) (fun _ _ _ h => h) (Or.inl ⟨by rfl, ?_⟩) hHeld ?_ ?_
    rotate_left
    · rintro w' ⟨s0, s1, s2, s3, s4⟩
      go_simp
      with_reducible rfl
    rotate_left
    · simp only [Act.put, List.setIfInBounds_toArray, List.set_cons_zero, List.set_cons_succ, i64_w, i32_w]
      rfl
    refine one_ (i := 8) (N := some 83) #[true, true, true, true, true, true, true, true, true, false, false, false, false, false] rfl rfl (by kernel_rfl) (by decide) (fun KK hK => ?_)
    refine goes_ Try.func27 (by kernel_rfl) rfl #[.pointer (some ⟨g, 0, none⟩), .int .i64 kd, .string tx] (by rfl) rfl rfl (by simp only [List.map_toArray, List.map_cons, List.map_nil]; rfl) ?_
    refine HC1.out.mono ?_
    rintro e w4 ⟨r1, er1, L1, h1, hp1, rfl, hm1, hf1⟩
    have hd4 := HDS.out.drew.step hf1
    refine ⟨_, rfl, ?_⟩
    refine hK.out _ _ hd4.held (fun hHeld => ?_)
    clear hK KK
    refine norm_ (a' := ?_) ?_ ?_
    rotate_left
    · show Act.put _ (some 83) _ = _
      simp only [Act.put, List.setIfInBounds_toArray, List.set_cons_zero, List.set_cons_succ, i64_w, i32_w]
      rfl
    have H4 := Aside0.mk (And.intro hp1 (And.intro hm1 (And.intro hf1 hd4)))
    clear hp1 hm1 hf1 hd4 HC1
    refine pure_ (i := 9) (N := some 74) (v := ?_) (a' := ?_) #[true, true, true, true, true, true, true, true, true, true, false, false, false, false] rfl rfl (by kernel_rfl) (fun _ _ _ h => h) (Or.inl ⟨by rfl, ?_⟩) ?_ ?_
    rotate_left
    · intro w'
      go_simp
      with_reducible rfl
    rotate_left
    · simp only [Act.put, List.setIfInBounds_toArray, List.set_cons_zero, List.set_cons_succ, i64_w, i32_w]
      rfl
    refine pure_ (i := 10) (N := some 84) (v := ?_) (a' := ?_) #[true, true, true, true, true, true, true, true, true, true, true, false, false, false] rfl rfl (by kernel_rfl) (fun _ _ _ h => h) (Or.inl ⟨by rfl, ?_⟩) ?_ ?_
    rotate_left
    · intro w'
      go_simp
      with_reducible rfl
    rotate_left
    · simp only [Act.put, List.setIfInBounds_toArray, List.set_cons_zero, List.set_cons_succ, i64_w, i32_w]
      rfl
    refine pure_ (i := 11) (N := some 85) (v := ?_) (a' := ?_) #[true, true, true, true, true, true, true, true, true, true, true, true, false, false] rfl rfl (by kernel_rfl) (fun _ _ _ h => h) (Or.inl ⟨by rfl, ?_⟩) ?_ ?_
    rotate_left
    · intro w'
      go_simp
      with_reducible rfl
    rotate_left
    · simp only [Act.put, List.setIfInBounds_toArray, List.set_cons_zero, List.set_cons_succ, i64_w, i32_w]
      rfl
    refine pure_ (i := 12) (N := some 13) (v := ?_) (a' := ?_) #[true, true, true, true, true, true, true, true, true, true, true, true, true, false] rfl rfl (by kernel_rfl) (fun _ _ _ h => h) (Or.inl ⟨by rfl, ?_⟩) ?_ ?_
    rotate_left
    · intro w'
      go_simp
      with_reducible rfl
    rotate_left
    · simp only [Act.put, List.setIfInBounds_toArray, List.set_cons_zero, List.set_cons_succ, i64_w, i32_w]
      rfl
    refine pure_ (i := 13) (N := some 14) (v := ?_) (a' := ?_) #[true, true, true, true, true, true, true, true, true, true, true, true, true, true] rfl rfl (by kernel_rfl) (fun _ _ _ h => h) (Or.inl ⟨by rfl, ?_⟩) ?_ ?_
    rotate_left
    · intro w'
      go_simp
      with_reducible rfl
    rotate_left
    · simp only [Act.put, List.setIfInBounds_toArray, List.set_cons_zero, List.set_cons_succ, i64_w, i32_w]
      rfl
    refine done_ (by kernel_rfl) ?_
    go_wp2_with fail
    have hPd := H4.out.2.1.fr0 (Fr.drew [] w4)
    have hsm := HSB.out.2.smt HSB.out.1 (by omega)
    have hrl := HSB.out.2.rl
    have hr2 := HSB.out.1.roots.1
    have HC2 := Aside0.mk (hPd.txR hsm kd tx)
    have HD4 := Aside0.mk (show (w4.drew.cell? ⟨p, 0, none⟩ = some (.pointer (some ⟨g, 0, none⟩)) ∧ w4.drew.cell? ⟨p, 1, none⟩ = some (.pointer (some ⟨gx, 0, none⟩)) ∧ w4.drew.cell? ⟨b0, 1, none⟩ = some (.int .i64 kd) ∧ w4.drew.cell? ⟨b0, 2, none⟩ = some (.int .i64 ix) ∧ w4.drew.cell? ⟨b0, 4, none⟩ = some (.string tx)) from H4.out.2.2.2.drew.held)
    unfold ptr at HC2
    clear hPd hsm hrl hr2
    refine start_ (n := 14) (S := (fun w' => w'.cell? ⟨p, 0, none⟩ = some (.pointer (some ⟨g, 0, none⟩)) ∧ w'.cell? ⟨p, 1, none⟩ = some (.pointer (some ⟨gx, 0, none⟩)) ∧ w'.cell? ⟨b0, 1, none⟩ = some (.int .i64 kd) ∧ w'.cell? ⟨b0, 2, none⟩ = some (.int .i64 ix) ∧ w'.cell? ⟨b0, 4, none⟩ = some (.string tx))) (ds := []) #[false, false, false, false, false, false, false, false, false, false, false, false, false, false] (by kernel_rfl) rfl rfl HD4.out (fun hHeld => ?_)
    refine pure_ (i := 0) (N := some 87) (v := ?_) (a' := ?_) #[true, false, false, false, false, false, false, false, false, false, false, false, false, false] rfl rfl (by kernel_rfl) (fun _ _ _ h => h) (Or.inl ⟨by rfl, ?_⟩) ?_ ?_
    rotate_left
    · intro w'
      go_simp
      with_reducible rfl
    rotate_left
    · simp only [Act.put, List.setIfInBounds_toArray, List.set_cons_zero, List.set_cons_succ, i64_w, i32_w]
      rfl
    refine pure_ (i := 1) (N := some 88) (v := ?_) (a' := ?_) #[true, true, false, false, false, false, false, false, false, false, false, false, false, false] rfl rfl (by kernel_rfl) (fun _ _ _ h => h) (Or.inl ⟨by rfl, ?_⟩) ?_ ?_
    rotate_left
    · intro w'
      go_simp
      with_reducible rfl
    rotate_left
    · simp only [Act.put, List.setIfInBounds_toArray, List.set_cons_zero, List.set_cons_succ, i64_w, i32_w]
      rfl
    refine pure_ (i := 2) (N := some 89) (v := ?_) (a' := ?_) #[true, true, true, false, false, false, false, false, false, false, false, false, false, false] rfl rfl (by kernel_rfl) (fun _ _ _ h => h) (Or.inl ⟨by rfl, ?_⟩) ?_ ?_
    rotate_left
    · intro w'
      go_simp
      with_reducible rfl
    rotate_left
    · simp only [Act.put, List.setIfInBounds_toArray, List.set_cons_zero, List.set_cons_succ, i64_w, i32_w]
      rfl
    refine take_ (i := 3) (N := some 90) (v := ?_) (a' := ?_) #[true, true, true, true, false, false, false, false, false, false, false, false, false, false] rfl rfl (by kernel_rfl) (fun _ _ _ h => h) (Or.inl ⟨by rfl, ?_⟩) hHeld ?_ ?_
    rotate_left
    · rintro w' ⟨s0, s1, s2, s3, s4⟩
      go_simp
      with_reducible rfl
    rotate_left
    · simp only [Act.put, List.setIfInBounds_toArray, List.set_cons_zero, List.set_cons_succ, i64_w, i32_w]
      rfl
    refine pure_ (i := 4) (N := some 91) (v := ?_) (a' := ?_) #[true, true, true, true, true, false, false, false, false, false, false, false, false, false] rfl rfl (by kernel_rfl) (fun _ _ _ h => h) (Or.inl ⟨by rfl, ?_⟩) ?_ ?_
    rotate_left
    · intro w'
      go_simp
      with_reducible rfl
    rotate_left
    · simp only [Act.put, List.setIfInBounds_toArray, List.set_cons_zero, List.set_cons_succ, i64_w, i32_w]
      rfl
    refine take_ (i := 5) (N := some 92) (v := ?_) (a' := ?_) #[true, true, true, true, true, true, false, false, false, false, false, false, false, false] rfl rfl (by kernel_rfl) (fun _ _ _ h => h) (Or.inl ⟨by rfl, ?_⟩) hHeld ?_ ?_
    rotate_left
    · rintro w' ⟨s0, s1, s2, s3, s4⟩
      go_simp
      with_reducible rfl
    rotate_left
    · simp only [Act.put, List.setIfInBounds_toArray, List.set_cons_zero, List.set_cons_succ, i64_w, i32_w]
      rfl
    refine pure_ (i := 6) (N := some 93) (v := ?_) (a' := ?_) #[true, true, true, true, true, true, true, false, false, false, false, false, false, false] rfl rfl (by kernel_rfl) (fun _ _ _ h => h) (Or.inl ⟨by rfl, ?_⟩) ?_ ?_
    rotate_left
    · intro w'
      go_simp
      with_reducible rfl
    rotate_left
    · simp only [Act.put, List.setIfInBounds_toArray, List.set_cons_zero, List.set_cons_succ, i64_w, i32_w]
      rfl
    refine take_ (i := 7) (N := some 94) (v := ?_) (a' := ?_) #[true, true, true, true, true, true, true, true, false, false, false, false, false, false] rfl rfl (by kernel_rfl) (fun _ _ _ h => h) (Or.inl ⟨by rfl, ?_⟩) hHeld ?_ ?_
    rotate_left
    · rintro w' ⟨s0, s1, s2, s3, s4⟩
      go_simp
      with_reducible rfl
    rotate_left
    · simp only [Act.put, List.setIfInBounds_toArray, List.set_cons_zero, List.set_cons_succ, i64_w, i32_w]
      rfl
    refine one_ (i := 8) (N := some 95) #[true, true, true, true, true, true, true, true, true, false, false, false, false, false] rfl rfl (by kernel_rfl) (by decide) (fun KK hK => ?_)
    refine goes_ Try.func50 (by kernel_rfl) rfl #[.pointer (some ⟨gx, 0, none⟩), .int .i64 kd, .string tx] (by rfl) rfl rfl (by simp only [List.map_toArray, List.map_cons, List.map_nil]; rfl) ?_
    refine HC2.out.mono ?_
    rintro e w5 ⟨r2, er2, M2, k2, hp2, rfl, hm2, hf2⟩
    have hd5 := H4.out.2.2.2.drew.step hf2
    have hsi := HSB.out.1.tx HSB.out.2 (by omega) HP3.out.tapart H4.out.1 hp2
    obtain ⟨rfl, ρ2, hs5, hb5, hw5⟩ := hsi
    refine ⟨_, rfl, ?_⟩
    refine hK.out _ _ hd5.held (fun hHeld => ?_)
    clear hK KK
    refine norm_ (a' := ?_) ?_ ?_
    rotate_left
    · show Act.put _ (some 95) _ = _
      simp only [Act.put, List.setIfInBounds_toArray, List.set_cons_zero, List.set_cons_succ, i64_w, i32_w]
      rfl
    have H5 := Aside0.mk (And.intro hm2 (And.intro hd5 (And.intro hs5 (And.intro hb5 hw5))))
    clear hp2 hm2 hf2 hd5 hs5 hb5 hw5 HC2
    refine pure_ (i := 9) (N := some 86) (v := ?_) (a' := ?_) #[true, true, true, true, true, true, true, true, true, true, false, false, false, false] rfl rfl (by kernel_rfl) (fun _ _ _ h => h) (Or.inl ⟨by rfl, ?_⟩) ?_ ?_
    rotate_left
    · intro w'
      go_simp
      with_reducible rfl
    rotate_left
    · simp only [Act.put, List.setIfInBounds_toArray, List.set_cons_zero, List.set_cons_succ, i64_w, i32_w]
      rfl
    refine pure_ (i := 10) (N := some 96) (v := ?_) (a' := ?_) #[true, true, true, true, true, true, true, true, true, true, true, false, false, false] rfl rfl (by kernel_rfl) (fun _ _ _ h => h) (Or.inl ⟨by rfl, ?_⟩) ?_ ?_
    rotate_left
    · intro w'
      go_simp
      with_reducible rfl
    rotate_left
    · simp only [Act.put, List.setIfInBounds_toArray, List.set_cons_zero, List.set_cons_succ, i64_w, i32_w]
      rfl
    refine pure_ (i := 11) (N := some 97) (v := ?_) (a' := ?_) #[true, true, true, true, true, true, true, true, true, true, true, true, false, false] rfl rfl (by kernel_rfl) (fun _ _ _ h => h) (Or.inl ⟨by rfl, ?_⟩) ?_ ?_
    rotate_left
    · intro w'
      go_simp
      with_reducible rfl
    rotate_left
    · simp only [Act.put, List.setIfInBounds_toArray, List.set_cons_zero, List.set_cons_succ, i64_w, i32_w]
      rfl
    refine pure_ (i := 12) (N := some 15) (v := ?_) (a' := ?_) #[true, true, true, true, true, true, true, true, true, true, true, true, true, false] rfl rfl (by kernel_rfl) (fun _ _ _ h => h) (Or.inl ⟨by rfl, ?_⟩) ?_ ?_
    rotate_left
    · intro w'
      go_simp
      with_reducible rfl
    rotate_left
    · simp only [Act.put, List.setIfInBounds_toArray, List.set_cons_zero, List.set_cons_succ, i64_w, i32_w]
      rfl
    refine pure_ (i := 13) (N := some 16) (v := ?_) (a' := ?_) #[true, true, true, true, true, true, true, true, true, true, true, true, true, true] rfl rfl (by kernel_rfl) (fun _ _ _ h => h) (Or.inl ⟨by rfl, ?_⟩) ?_ ?_
    rotate_left
    · intro w'
      go_simp
      with_reducible rfl
    rotate_left
    · simp only [Act.put, List.setIfInBounds_toArray, List.set_cons_zero, List.set_cons_succ, i64_w, i32_w]
      rfl
    refine done_ (by kernel_rfl) ?_
    go_wp2_with fail
    have HPB := Aside0.mk (push_both (er := er1) H5.out.1 H5.out.2.2.1 H5.out.2.2.2.1 (by omega) H5.out.2.1.pr H5.out.2.1.pk H5.out.2.2.2.2)
    unfold ptr at HPB
    refine HPB.out.mono ?_
    rintro e w6 ⟨rfl, h6, k6, hm6, hs6, hb6, hf6⟩
    have H6 := Aside0.mk (And.intro hm6 (And.intro hs6 (And.intro hb6 hf6)))
    clear hm6 hs6 hb6 hf6 HPB
    go_wp2_with fail
    go_returns
    exact (H5.out.2.1.step H6.out.2.2.2).fin H6.out.1 H6.out.2.1 H6.out.2.2.1
end
end Go.Proofs.Ytlghnldlkbgajaa.S
