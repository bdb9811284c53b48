
/- heap: the laws' own functions: does, Field, Pop, Collect. -/
import Derived.Test.YtlghnldlkbgajaaHLwA
namespace Go.Proofs.Ytlghnldlkbgajaa.S
open Go.RowKit Go.Proofs.YtlghnldlkbgajaaW.PrintWords Go.Proofs.YtlghnldlkbgajaaW.PrintLast Go.Proofs.YtlghnldlkbgajaaW.PrintMore
set_option linter.unusedVariables false
set_option linter.unusedSimpArgs false
section
variable {w0 w w' : World} {K : List Nat} {p g gx : Nat} {L : List OW} {h : HH} {M : List OW} {k : RS} {ρ : Int → Int → Prop} {n : Nat}
theorem Sim.fieldX (s : Sim ρ L h M k) {u v : Int} (hr : WX ρ u v) (i : Int) : (fieldF L u i).2 = (fieldF M v i).2 ∧ WR ρ (fieldF L u i).1 (fieldF M v i).1 := by
  rcases hr with hr | ⟨rfl, hc⟩
  · exact s.fieldEq (.inl hr) i
  · unfold fieldF
    rw [fnd_no (s.xl hc).1, fnd_no (s.xl hc).2]
    exact ⟨rfl, .inr ⟨rfl, constZero⟩⟩
theorem OwnW.cellq {w : World} {N q : Nat} {c : Nat} {x : Int} {l : List Int} (h : OwnW w N (some ⟨q, 0, none⟩) c (x :: l)) : w.cell? ⟨q, 0, none⟩ = some (.int .i64 x) := by
  obtain ⟨q', e, hc⟩ := h.cell0
  simp only [Option.some.injEq, Addr.mk.injEq] at e
  rw [e.1]; exact hc
theorem setL_len (L : List OW) (x : OW) (i : Nat) (v : Int) : (setL L x i v).length = L.length := by rw [setL_upd]; unfold upd; simp
theorem Bnd.setB (bd : Bnd n L h M k) {a a' i v v' er er' : Int} {L' M' : List OW} (hp : SetP a i v L er L') (hq : SetP a' i v' M er' M') : Bnd n L' h M' k := by
  have h1 : L'.length = L.length := by rcases hp with ⟨-, -, rfl⟩ | ⟨-, -, -, rfl⟩ | ⟨-, x, -, -, -, -, -, rfl⟩ <;> first | rfl | exact setL_len _ _ _ _
  have h2 : M'.length = M.length := by rcases hq with ⟨-, -, rfl⟩ | ⟨-, -, -, rfl⟩ | ⟨-, x, -, -, -, -, -, rfl⟩ <;> first | rfl | exact setL_len _ _ _ _
  exact ⟨by rw [h1]; exact bd.ll, by rw [h2]; exact bd.lm, bd.rl, bd.nx, bd.kx, bd.mm⟩
set_option maxRecDepth 100000 in
set_option maxHeartbeats 4000000 in
theorem does_field (P : PM w0 w K g gx L h M k) (s : Sim ρ L h M k) (bd : Bnd n L h M k) (hn : n ≤ 900) (hpr : PrAt w p g gx) (hpK : p ∈ K) {A : Option Addr} {c : Nat} {xs : List Int} (hxs : IntsAt w A xs) (hxl : xs.length ≤ 10000000) (op kd ix : Int) (tx : ByteArray) (htx : tx.size ≤ 1000000000) (hr : (IntKind.u64.wrap op).tmod 9 = 5) :
    Calls Try.prog 25 #[ptr p, .agg #[.int .i64 op, .int .i64 kd, .int .i64 ix, .slice A xs.length c, .string tx]] w (DoesOk w0 w K g gx n) := by
  have hb0 : Below w.heap.size w (w.alloc (.cells #[.int .i64 op, .int .i64 kd, .int .i64 ix, .slice A xs.length c, .string tx] 59)) := (Below.refl _ _).alloc (Nat.le_refl _) _
  have hbox0 := heap_alloc_new w (.cells #[.int .i64 op, .int .i64 kd, .int .i64 ix, .slice A xs.length c, .string tx] 59)
  have HWD := Aside0.mk (words_calls (c := c) (P.new hb0) s (by have := bd.rl; omega) (hpr.new hb0) (hxs.new hb0) hxl)
  have HP := Aside0.mk P
  have HSB := Aside0.mk (And.intro s bd)
  have HPR := Aside0.mk (And.intro hpr hpK)
  have HB0 := Aside0.mk (And.intro hb0 hbox0)
  have HR := Aside0.mk hr
  unfold ptr
  unfold ptr at HWD
  clear P s hpr hpK hb0 hbox0 hr hxs
  go_enter Try.func25, Try.ntmps25
  go_wp2_with fail
  refine HWD.out.mono ?_
  rintro e w2 ⟨A1, c1, A2, c2, a, b, rfl, hab, hal, ho1, ho2, hb2⟩
  have hbA := HB0.out.1.trans (Below.mono hb2 HB0.out.1.size)
  have hPw := HP.out.new hbA
  have hprw := HPR.out.1.new hbA
  have HD := Aside0.mk (word_calls hPw HSB.out.1 (by have := bd.rl; omega) hprw ix)
  have hbx2 := (FrP.ofBelow hb2).get HB0.out.2 (by simp)
  have k2 : w2.cell? ⟨w.heap.size, 2, none⟩ = some (.int .i64 ix) := (blk_cell hbx2 2).trans rfl
  have H2 := Aside0.mk (show Below w.heap.size w w2 ∧ w2.heap[w.heap.size]? = some (.cells #[.int .i64 op, .int .i64 kd, .int .i64 ix, .slice A xs.length c, .string tx] 59 (0, 0)) from ⟨hbA, hbx2⟩)
  have HO := Aside0.mk (And.intro (And.intro ho1 ho2) hab)
  unfold ptr at HD
  have HAL0 := Aside0.mk hal
  clear hbA hPw hprw hbx2 ho1 ho2 hb2 hab hal HWD
  go_wp2_with fail
  refine HD.out.mono ?_
  rintro e w3 ⟨u, v, rfl, huv, hf3⟩
  have hb3 : Below w.heap.size w w3 := H2.out.1.trans ((FrP.ofFr hf3).below H2.out.1.size (fun i hi => by simp at hi))
  have ho1 := HO.out.1.1.frp (FrP.ofFr hf3) (fun k _ => by simp)
  have ho2 := HO.out.1.2.frp (FrP.ofFr hf3) (fun k _ => by simp)
  have hsA := HB0.out.1.size
  have hbx3 := hf3.get H2.out.2 (by simp)
  have k0 : w3.cell? ⟨w.heap.size, 0, none⟩ = some (.int .i64 op) := (blk_cell hbx3 0).trans rfl
  obtain ⟨K1, hK1⟩ : ∃ K1, K1 = (w.heap.size :: (blks A1 ++ blks A2)) ++ K := ⟨_, rfl⟩
  have hP3 : PM w0 w3 K1 g gx L h M k := by
    rw [hK1]
    refine HP.out.guard hb3 _ (fun j hj => ?_)
    rcases List.mem_cons.1 hj with rfl | hj
    · exact ⟨Nat.le_refl _, blk_lt hbx3⟩
    · rcases List.mem_append.1 hj with hj | hj
      · have := ho1.blk j hj; exact ⟨by omega, this.2⟩
      · have := ho2.blk j hj; exact ⟨by omega, this.2⟩
  have hds : DS w0 w w3 K K1 p g gx w.heap.size op kd ix (.slice A xs.length c) tx :=
    ⟨fun j hj => by rw [hK1]; simp [hj], FrP.new hb3 _, HPR.out.1.new hb3, by rw [hK1]; simp [HPR.out.2], hbx3, by rw [hK1]; simp⟩
  have HO3 := Aside0.mk (show (OwnW w3 (w.alloc (.cells #[.int .i64 op, .int .i64 kd, .int .i64 ix, .slice A xs.length c, .string tx] 59)).heap.size A1 c1 a ∧ ∀ j ∈ blks A1, j ∈ K1) ∧ (OwnW w3 (w.alloc (.cells #[.int .i64 op, .int .i64 kd, .int .i64 ix, .slice A xs.length c, .string tx] 59)).heap.size A2 c2 b ∧ ∀ j ∈ blks A2, j ∈ K1) ∧ All2 (WX ρ) a b ∧ WX ρ u v from
    ⟨⟨ho1, fun j hj => by rw [hK1]; simp [hj]⟩, ⟨ho2, fun j hj => by rw [hK1]; simp [hj]⟩, HO.out.2, huv⟩)
  have HP3 := Aside0.mk hP3
  have HDS := Aside0.mk hds
  have HAL := Aside0.mk (And.intro HAL0.out HO.out.2.1)
  obtain ⟨b0, hb0⟩ : ∃ b0, b0 = w.heap.size := ⟨_, rfl⟩
  rw [← hb0] at k0 HDS ⊢
  clear hb3 ho1 ho2 hsA hbx3 hK1 hP3 hds huv hf3 HD HO H2 HB0 HP HPR hb0
  have hrr := HR.out
  · have t0 : (wrap64 ((IntKind.u64.wrap op).tmod 9) == 0) = false := by rw [hrr, show wrap64 5 = 5 by unfold wrap64; omega]; decide
    have t1 : (wrap64 ((IntKind.u64.wrap op).tmod 9) == 1) = false := by rw [hrr, show wrap64 5 = 5 by unfold wrap64; omega]; decide
    have t2 : (wrap64 ((IntKind.u64.wrap op).tmod 9) == 2) = false := by rw [hrr, show wrap64 5 = 5 by unfold wrap64; omega]; decide
    have t3 : (wrap64 ((IntKind.u64.wrap op).tmod 9) == 3) = false := by rw [hrr, show wrap64 5 = 5 by unfold wrap64; omega]; decide
    have t4 : (wrap64 ((IntKind.u64.wrap op).tmod 9) == 4) = false := by rw [hrr, show wrap64 5 = 5 by unfold wrap64; omega]; decide
    have t5 : (wrap64 ((IntKind.u64.wrap op).tmod 9) == 5) = true := by rw [hrr, show wrap64 5 = 5 by unfold wrap64; omega]; decide
    clear hrr HR
    go_wp2_with fail
    have hPd := HP3.out.fr0 (Fr.drew [] w3)
    have HC1 := Aside0.mk (hPd.fieldL HSB.out.1 u tx.size)
    have HD3 := Aside0.mk (show (w3.drew.cell? ⟨p, 0, none⟩ = some (.pointer (some ⟨g, 0, none⟩)) ∧ w3.drew.cell? ⟨p, 1, none⟩ = some (.pointer (some ⟨gx, 0, none⟩)) ∧ w3.drew.cell? ⟨b0, 1, none⟩ = some (.int .i64 kd) ∧ w3.drew.cell? ⟨b0, 2, none⟩ = some (.int .i64 ix) ∧ w3.drew.cell? ⟨b0, 4, none⟩ = some (.string tx)) from HDS.out.drew.held)
    have HPd := Aside0.mk hPd
    unfold ptr at HC1
    clear hPd k0
    refine start_ (n := 14) (S := (fun w' => w'.cell? ⟨p, 0, none⟩ = some (.pointer (some ⟨g, 0, none⟩)) ∧ w'.cell? ⟨p, 1, none⟩ = some (.pointer (some ⟨gx, 0, none⟩)) ∧ w'.cell? ⟨b0, 1, none⟩ = some (.int .i64 kd) ∧ w'.cell? ⟨b0, 2, none⟩ = some (.int .i64 ix) ∧ w'.cell? ⟨b0, 4, none⟩ = some (.string tx))) (ds := []) #[false, false, false, false, false, false, false, false, false, false, false, false, false, false] (by kernel_rfl) rfl rfl HD3.out (fun hHeld => ?_)
    refine pure_ (i := 0) (N := some 137) (v := ?_) (a' := ?_) #[true, false, false, false, false, false, false, false, false, false, false, false, false, false] rfl rfl (by kernel_rfl) (fun _ _ _ h => h) (Or.inl ⟨by rfl, ?_⟩) ?_ ?_
    rotate_left
    · intro w'
      go_simp
      with_reducible rfl
    rotate_left
    · simp only [Act.put, List.setIfInBounds_toArray, List.set_cons_zero, List.set_cons_succ, i64_w, i32_w]
      rfl
    refine pure_ (i := 1) (N := some 138) (v := ?_) (a' := ?_) #[true, true, false, false, false, false, false, false, false, false, false, false, false, false] rfl rfl (by kernel_rfl) (fun _ _ _ h => h) (Or.inl ⟨by rfl, ?_⟩) ?_ ?_
    rotate_left
    · intro w'
      go_simp
      with_reducible rfl
    rotate_left
    · simp only [Act.put, List.setIfInBounds_toArray, List.set_cons_zero, List.set_cons_succ, i64_w, i32_w]
      rfl
    refine pure_ (i := 2) (N := some 139) (v := ?_) (a' := ?_) #[true, true, true, false, false, false, false, false, false, false, false, false, false, false] rfl rfl (by kernel_rfl) (fun _ _ _ h => h) (Or.inl ⟨by rfl, ?_⟩) ?_ ?_
    rotate_left
    · intro w'
      go_simp
      with_reducible rfl
    rotate_left
    · simp only [Act.put, List.setIfInBounds_toArray, List.set_cons_zero, List.set_cons_succ, i64_w, i32_w]
      rfl
    refine take_ (i := 3) (N := some 140) (v := ?_) (a' := ?_) #[true, true, true, true, false, false, false, false, false, false, false, false, false, false] rfl rfl (by kernel_rfl) (fun _ _ _ h => h) (Or.inl ⟨by rfl, ?_⟩) hHeld ?_ ?_
    rotate_left
    · rintro w' ⟨s0, s1, s2, s3, s4⟩
      go_simp
      with_reducible rfl
    rotate_left
    · simp only [Act.put, List.setIfInBounds_toArray, List.set_cons_zero, List.set_cons_succ, i64_w, i32_w]
      rfl
    refine pure_ (i := 4) (N := some 141) (v := ?_) (a' := ?_) #[true, true, true, true, true, false, false, false, false, false, false, false, false, false] rfl rfl (by kernel_rfl) (fun _ _ _ h => h) (Or.inl ⟨by rfl, ?_⟩) ?_ ?_
    rotate_left
    · intro w'
      go_simp
      with_reducible rfl
    rotate_left
    · simp only [Act.put, List.setIfInBounds_toArray, List.set_cons_zero, List.set_cons_succ, i64_w, i32_w]
      rfl
    refine pure_ (i := 5) (N := some 142) (v := ?_) (a' := ?_) #[true, true, true, true, true, true, false, false, false, false, false, false, false, false] rfl rfl (by kernel_rfl) (fun _ _ _ h => h) (Or.inl ⟨by rfl, ?_⟩) ?_ ?_
    rotate_left
    · intro w'
      go_simp
      with_reducible rfl
    rotate_left
    · simp only [Act.put, List.setIfInBounds_toArray, List.set_cons_zero, List.set_cons_succ, i64_w, i32_w]
      rfl
    refine take_ (i := 6) (N := some 143) (v := ?_) (a' := ?_) #[true, true, true, true, true, true, true, false, false, false, false, false, false, false] rfl rfl (by kernel_rfl) (fun _ _ _ h => h) (Or.inl ⟨by rfl, ?_⟩) hHeld ?_ ?_
    rotate_left
    · rintro w' ⟨s0, s1, s2, s3, s4⟩
      go_simp
      with_reducible rfl
    rotate_left
    · simp only [Act.put, List.setIfInBounds_toArray, List.set_cons_zero, List.set_cons_succ, i64_w, i32_w]
      rfl
    refine pure_ (i := 7) (N := some 144) (v := ?_) (a' := ?_) #[true, true, true, true, true, true, true, true, false, false, false, false, false, false] rfl rfl (by kernel_rfl) (fun _ _ _ h => h) (Or.inl ⟨by rfl, ?_⟩) ?_ ?_
    rotate_left
    · intro w'
      go_simp
      with_reducible rfl
    rotate_left
    · simp only [Act.put, List.setIfInBounds_toArray, List.set_cons_zero, List.set_cons_succ, i64_w, i32_w]
      rfl
    refine one_ (i := 8) (N := some 145) #[true, true, true, true, true, true, true, true, true, false, false, false, false, false] rfl rfl (by kernel_rfl) (by decide) (fun KK hK => ?_)
    refine goes_ Try.func14 (by kernel_rfl) rfl #[.pointer (some ⟨g, 0, none⟩), .int .i64 u, .int .i64 (tx.size : Int)] (by rfl) rfl rfl (by simp only [List.map_toArray, List.map_cons, List.map_nil]; rfl) ?_
    refine HC1.out.mono ?_
    rintro e w4 ⟨rfl, hb4⟩
    have hd4 := HDS.out.drew.step (FrP.new hb4 _)
    refine ⟨_, rfl, ?_⟩
    refine hK.out _ _ hd4.held (fun hHeld => ?_)
    clear hK KK
    refine norm_ (a' := ?_) ?_ ?_
    rotate_left
    · show Act.put _ (some 145) _ = _
      simp only [Act.put, List.setIfInBounds_toArray, List.set_cons_zero, List.set_cons_succ, i64_w, i32_w]
      rfl
    have H4 := Aside0.mk (And.intro (HPd.out.new hb4) hd4)
    clear hb4 hd4 HC1
    refine pure_ (i := 9) (N := some 136) (v := ?_) (a' := ?_) #[true, true, true, true, true, true, true, true, true, true, false, false, false, false] rfl rfl (by kernel_rfl) (fun _ _ _ h => h) (Or.inl ⟨by rfl, ?_⟩) ?_ ?_
    rotate_left
    · intro w'
      go_simp
      with_reducible rfl
    rotate_left
    · simp only [Act.put, List.setIfInBounds_toArray, List.set_cons_zero, List.set_cons_succ, i64_w, i32_w]
      rfl
    refine pure_ (i := 10) (N := some 146) (v := ?_) (a' := ?_) #[true, true, true, true, true, true, true, true, true, true, true, false, false, false] rfl rfl (by kernel_rfl) (fun _ _ _ h => h) (Or.inl ⟨by rfl, ?_⟩) ?_ ?_
    rotate_left
    · intro w'
      go_simp
      with_reducible rfl
    rotate_left
    · simp only [Act.put, List.setIfInBounds_toArray, List.set_cons_zero, List.set_cons_succ, i64_w, i32_w]
      rfl
    refine pure_ (i := 11) (N := some 147) (v := ?_) (a' := ?_) #[true, true, true, true, true, true, true, true, true, true, true, true, false, false] rfl rfl (by kernel_rfl) (fun _ _ _ h => h) (Or.inl ⟨by rfl, ?_⟩) ?_ ?_
    rotate_left
    · intro w'
      go_simp
      with_reducible rfl
    rotate_left
    · simp only [Act.put, List.setIfInBounds_toArray, List.set_cons_zero, List.set_cons_succ, i64_w, i32_w]
      rfl
    refine pure_ (i := 12) (N := some 17) (v := ?_) (a' := ?_) #[true, true, true, true, true, true, true, true, true, true, true, true, true, false] rfl rfl (by kernel_rfl) (fun _ _ _ h => h) (Or.inl ⟨by rfl, ?_⟩) ?_ ?_
    rotate_left
    · intro w'
      go_simp
      with_reducible rfl
    rotate_left
    · simp only [Act.put, List.setIfInBounds_toArray, List.set_cons_zero, List.set_cons_succ, i64_w, i32_w]
      rfl
    refine pure_ (i := 13) (N := some 18) (v := ?_) (a' := ?_) #[true, true, true, true, true, true, true, true, true, true, true, true, true, true] rfl rfl (by kernel_rfl) (fun _ _ _ h => h) (Or.inl ⟨by rfl, ?_⟩) ?_ ?_
    rotate_left
    · intro w'
      go_simp
      with_reducible rfl
    rotate_left
    · simp only [Act.put, List.setIfInBounds_toArray, List.set_cons_zero, List.set_cons_succ, i64_w, i32_w]
      rfl
    refine done_ (by kernel_rfl) ?_
    generalize hf1 : fieldF L u tx.size = f1 at *
    go_wp2_with fail
    have HF1 := Aside0.mk hf1
    have hPd4 := H4.out.1.fr0 (Fr.drew [] w4)
    have HC2 := Aside0.mk (hPd4.fieldR (by have := HSB.out.2.lm; omega) v tx.size)
    have HD4 := Aside0.mk (show (w4.drew.cell? ⟨p, 0, none⟩ = some (.pointer (some ⟨g, 0, none⟩)) ∧ w4.drew.cell? ⟨p, 1, none⟩ = some (.pointer (some ⟨gx, 0, none⟩)) ∧ w4.drew.cell? ⟨b0, 1, none⟩ = some (.int .i64 kd) ∧ w4.drew.cell? ⟨b0, 2, none⟩ = some (.int .i64 ix) ∧ w4.drew.cell? ⟨b0, 4, none⟩ = some (.string tx)) from H4.out.2.drew.held)
    have HPd4 := Aside0.mk hPd4
    unfold ptr at HC2
    clear hPd4 hf1
    refine start_ (n := 14) (S := (fun w' => w'.cell? ⟨p, 0, none⟩ = some (.pointer (some ⟨g, 0, none⟩)) ∧ w'.cell? ⟨p, 1, none⟩ = some (.pointer (some ⟨gx, 0, none⟩)) ∧ w'.cell? ⟨b0, 1, none⟩ = some (.int .i64 kd) ∧ w'.cell? ⟨b0, 2, none⟩ = some (.int .i64 ix) ∧ w'.cell? ⟨b0, 4, none⟩ = some (.string tx))) (ds := []) #[false, false, false, false, false, false, false, false, false, false, false, false, false, false] (by kernel_rfl) rfl rfl HD4.out (fun hHeld => ?_)
    refine pure_ (i := 0) (N := some 149) (v := ?_) (a' := ?_) #[true, false, false, false, false, false, false, false, false, false, false, false, false, false] rfl rfl (by kernel_rfl) (fun _ _ _ h => h) (Or.inl ⟨by rfl, ?_⟩) ?_ ?_
    rotate_left
    · intro w'
      go_simp
      with_reducible rfl
    rotate_left
    · simp only [Act.put, List.setIfInBounds_toArray, List.set_cons_zero, List.set_cons_succ, i64_w, i32_w]
      rfl
    refine pure_ (i := 1) (N := some 150) (v := ?_) (a' := ?_) #[true, true, false, false, false, false, false, false, false, false, false, false, false, false] rfl rfl (by kernel_rfl) (fun _ _ _ h => h) (Or.inl ⟨by rfl, ?_⟩) ?_ ?_
    rotate_left
    · intro w'
      go_simp
      with_reducible rfl
    rotate_left
    · simp only [Act.put, List.setIfInBounds_toArray, List.set_cons_zero, List.set_cons_succ, i64_w, i32_w]
      rfl
    refine pure_ (i := 2) (N := some 151) (v := ?_) (a' := ?_) #[true, true, true, false, false, false, false, false, false, false, false, false, false, false] rfl rfl (by kernel_rfl) (fun _ _ _ h => h) (Or.inl ⟨by rfl, ?_⟩) ?_ ?_
    rotate_left
    · intro w'
      go_simp
      with_reducible rfl
    rotate_left
    · simp only [Act.put, List.setIfInBounds_toArray, List.set_cons_zero, List.set_cons_succ, i64_w, i32_w]
      rfl
    refine take_ (i := 3) (N := some 152) (v := ?_) (a' := ?_) #[true, true, true, true, false, false, false, false, false, false, false, false, false, false] rfl rfl (by kernel_rfl) (fun _ _ _ h => h) (Or.inl ⟨by rfl, ?_⟩) hHeld ?_ ?_
    rotate_left
    · rintro w' ⟨s0, s1, s2, s3, s4⟩
      go_simp
      with_reducible rfl
    rotate_left
    · simp only [Act.put, List.setIfInBounds_toArray, List.set_cons_zero, List.set_cons_succ, i64_w, i32_w]
      rfl
    refine pure_ (i := 4) (N := some 153) (v := ?_) (a' := ?_) #[true, true, true, true, true, false, false, false, false, false, false, false, false, false] rfl rfl (by kernel_rfl) (fun _ _ _ h => h) (Or.inl ⟨by rfl, ?_⟩) ?_ ?_
    rotate_left
    · intro w'
      go_simp
      with_reducible rfl
    rotate_left
    · simp only [Act.put, List.setIfInBounds_toArray, List.set_cons_zero, List.set_cons_succ, i64_w, i32_w]
      rfl
    refine pure_ (i := 5) (N := some 154) (v := ?_) (a' := ?_) #[true, true, true, true, true, true, false, false, false, false, false, false, false, false] rfl rfl (by kernel_rfl) (fun _ _ _ h => h) (Or.inl ⟨by rfl, ?_⟩) ?_ ?_
    rotate_left
    · intro w'
      go_simp
      with_reducible rfl
    rotate_left
    · simp only [Act.put, List.setIfInBounds_toArray, List.set_cons_zero, List.set_cons_succ, i64_w, i32_w]
      rfl
    refine take_ (i := 6) (N := some 155) (v := ?_) (a' := ?_) #[true, true, true, true, true, true, true, false, false, false, false, false, false, false] rfl rfl (by kernel_rfl) (fun _ _ _ h => h) (Or.inl ⟨by rfl, ?_⟩) hHeld ?_ ?_
    rotate_left
    · rintro w' ⟨s0, s1, s2, s3, s4⟩
      go_simp
      with_reducible rfl
    rotate_left
    · simp only [Act.put, List.setIfInBounds_toArray, List.set_cons_zero, List.set_cons_succ, i64_w, i32_w]
      rfl
    refine pure_ (i := 7) (N := some 156) (v := ?_) (a' := ?_) #[true, true, true, true, true, true, true, true, false, false, false, false, false, false] rfl rfl (by kernel_rfl) (fun _ _ _ h => h) (Or.inl ⟨by rfl, ?_⟩) ?_ ?_
    rotate_left
    · intro w'
      go_simp
      with_reducible rfl
    rotate_left
    · simp only [Act.put, List.setIfInBounds_toArray, List.set_cons_zero, List.set_cons_succ, i64_w, i32_w]
      rfl
    refine one_ (i := 8) (N := some 157) #[true, true, true, true, true, true, true, true, true, false, false, false, false, false] rfl rfl (by kernel_rfl) (by decide) (fun KK hK => ?_)
    refine goes_ Try.func43 (by kernel_rfl) rfl #[.pointer (some ⟨gx, 0, none⟩), .int .i64 v, .int .i64 (tx.size : Int)] (by rfl) rfl rfl (by simp only [List.map_toArray, List.map_cons, List.map_nil]; rfl) ?_
    refine HC2.out.mono ?_
    rintro e w5 ⟨rfl, rfl⟩
    refine ⟨_, rfl, ?_⟩
    refine hK.out _ _ hHeld (fun hHeld => ?_)
    clear hK KK
    refine norm_ (a' := ?_) ?_ ?_
    rotate_left
    · show Act.put _ (some 157) _ = _
      simp only [Act.put, List.setIfInBounds_toArray, List.set_cons_zero, List.set_cons_succ, i64_w, i32_w]
      rfl
    clear HC2
    refine pure_ (i := 9) (N := some 148) (v := ?_) (a' := ?_) #[true, true, true, true, true, true, true, true, true, true, false, false, false, false] rfl rfl (by kernel_rfl) (fun _ _ _ h => h) (Or.inl ⟨by rfl, ?_⟩) ?_ ?_
    rotate_left
    · intro w'
      go_simp
      with_reducible rfl
    rotate_left
    · simp only [Act.put, List.setIfInBounds_toArray, List.set_cons_zero, List.set_cons_succ, i64_w, i32_w]
      rfl
    refine pure_ (i := 10) (N := some 158) (v := ?_) (a' := ?_) #[true, true, true, true, true, true, true, true, true, true, true, false, false, false] rfl rfl (by kernel_rfl) (fun _ _ _ h => h) (Or.inl ⟨by rfl, ?_⟩) ?_ ?_
    rotate_left
    · intro w'
      go_simp
      with_reducible rfl
    rotate_left
    · simp only [Act.put, List.setIfInBounds_toArray, List.set_cons_zero, List.set_cons_succ, i64_w, i32_w]
      rfl
    refine pure_ (i := 11) (N := some 159) (v := ?_) (a' := ?_) #[true, true, true, true, true, true, true, true, true, true, true, true, false, false] rfl rfl (by kernel_rfl) (fun _ _ _ h => h) (Or.inl ⟨by rfl, ?_⟩) ?_ ?_
    rotate_left
    · intro w'
      go_simp
      with_reducible rfl
    rotate_left
    · simp only [Act.put, List.setIfInBounds_toArray, List.set_cons_zero, List.set_cons_succ, i64_w, i32_w]
      rfl
    refine pure_ (i := 12) (N := some 19) (v := ?_) (a' := ?_) #[true, true, true, true, true, true, true, true, true, true, true, true, true, false] rfl rfl (by kernel_rfl) (fun _ _ _ h => h) (Or.inl ⟨by rfl, ?_⟩) ?_ ?_
    rotate_left
    · intro w'
      go_simp
      with_reducible rfl
    rotate_left
    · simp only [Act.put, List.setIfInBounds_toArray, List.set_cons_zero, List.set_cons_succ, i64_w, i32_w]
      rfl
    refine pure_ (i := 13) (N := some 20) (v := ?_) (a' := ?_) #[true, true, true, true, true, true, true, true, true, true, true, true, true, true] rfl rfl (by kernel_rfl) (fun _ _ _ h => h) (Or.inl ⟨by rfl, ?_⟩) ?_ ?_
    rotate_left
    · intro w'
      go_simp
      with_reducible rfl
    rotate_left
    · simp only [Act.put, List.setIfInBounds_toArray, List.set_cons_zero, List.set_cons_succ, i64_w, i32_w]
      rfl
    refine done_ (by kernel_rfl) ?_
    have hfe := HSB.out.1.fieldX HO3.out.2.2.2 tx.size
    rw [HF1.out] at hfe
    generalize fieldF M v tx.size = f2 at *
    obtain ⟨r1, er1⟩ := f1
    obtain ⟨r2, er2⟩ := f2
    obtain ⟨rfl, hfe⟩ : er1 = er2 ∧ WR ρ r1 r2 := hfe
    have HFE := Aside0.mk hfe
    clear hfe
    go_wp2_with fail
    have HPB := Aside0.mk (push_both (er := er1) HPd4.out HSB.out.1 HSB.out.2 (by omega) H4.out.2.drew.pr H4.out.2.pk (fun _ => HFE.out))
    unfold ptr at HPB
    refine HPB.out.mono ?_
    rintro e w6 ⟨rfl, h6, k6, hm6, hs6, hb6, hf6⟩
    have H6 := Aside0.mk (And.intro hm6 (And.intro hs6 (And.intro hb6 hf6)))
    clear hm6 hs6 hb6 hf6 HPB
    go_wp2_with fail
    go_returns
    exact (H4.out.2.drew.step H6.out.2.2.2).fin H6.out.1 H6.out.2.1 H6.out.2.2.1.up
set_option maxRecDepth 100000 in
set_option maxHeartbeats 4000000 in
theorem does_pop (P : PM w0 w K g gx L h M k) (s : Sim ρ L h M k) (bd : Bnd n L h M k) (hn : n ≤ 900) (hpr : PrAt w p g gx) (hpK : p ∈ K) {A : Option Addr} {c : Nat} {xs : List Int} (hxs : IntsAt w A xs) (hxl : xs.length ≤ 10000000) (op kd ix : Int) (tx : ByteArray) (htx : tx.size ≤ 1000000000) (hr : (IntKind.u64.wrap op).tmod 9 = 6) :
    Calls Try.prog 25 #[ptr p, .agg #[.int .i64 op, .int .i64 kd, .int .i64 ix, .slice A xs.length c, .string tx]] w (DoesOk w0 w K g gx n) := by
  have hb0 : Below w.heap.size w (w.alloc (.cells #[.int .i64 op, .int .i64 kd, .int .i64 ix, .slice A xs.length c, .string tx] 59)) := (Below.refl _ _).alloc (Nat.le_refl _) _
  have hbox0 := heap_alloc_new w (.cells #[.int .i64 op, .int .i64 kd, .int .i64 ix, .slice A xs.length c, .string tx] 59)
  have HWD := Aside0.mk (words_calls (c := c) (P.new hb0) s (by have := bd.rl; omega) (hpr.new hb0) (hxs.new hb0) hxl)
  have HP := Aside0.mk P
  have HSB := Aside0.mk (And.intro s bd)
  have HPR := Aside0.mk (And.intro hpr hpK)
  have HB0 := Aside0.mk (And.intro hb0 hbox0)
  have HR := Aside0.mk hr
  unfold ptr
  unfold ptr at HWD
  clear P s hpr hpK hb0 hbox0 hr hxs
  go_enter Try.func25, Try.ntmps25
  go_wp2_with fail
  refine HWD.out.mono ?_
  rintro e w2 ⟨A1, c1, A2, c2, a, b, rfl, hab, hal, ho1, ho2, hb2⟩
  have hbA := HB0.out.1.trans (Below.mono hb2 HB0.out.1.size)
  have hPw := HP.out.new hbA
  have hprw := HPR.out.1.new hbA
  have HD := Aside0.mk (word_calls hPw HSB.out.1 (by have := bd.rl; omega) hprw ix)
  have hbx2 := (FrP.ofBelow hb2).get HB0.out.2 (by simp)
  have k2 : w2.cell? ⟨w.heap.size, 2, none⟩ = some (.int .i64 ix) := (blk_cell hbx2 2).trans rfl
  have H2 := Aside0.mk (show Below w.heap.size w w2 ∧ w2.heap[w.heap.size]? = some (.cells #[.int .i64 op, .int .i64 kd, .int .i64 ix, .slice A xs.length c, .string tx] 59 (0, 0)) from ⟨hbA, hbx2⟩)
  have HO := Aside0.mk (And.intro (And.intro ho1 ho2) hab)
  unfold ptr at HD
  have HAL0 := Aside0.mk hal
  clear hbA hPw hprw hbx2 ho1 ho2 hb2 hab hal HWD
  go_wp2_with fail
  refine HD.out.mono ?_
  rintro e w3 ⟨u, v, rfl, huv, hf3⟩
  have hb3 : Below w.heap.size w w3 := H2.out.1.trans ((FrP.ofFr hf3).below H2.out.1.size (fun i hi => by simp at hi))
  have ho1 := HO.out.1.1.frp (FrP.ofFr hf3) (fun k _ => by simp)
  have ho2 := HO.out.1.2.frp (FrP.ofFr hf3) (fun k _ => by simp)
  have hsA := HB0.out.1.size
  have hbx3 := hf3.get H2.out.2 (by simp)
  have k0 : w3.cell? ⟨w.heap.size, 0, none⟩ = some (.int .i64 op) := (blk_cell hbx3 0).trans rfl
  obtain ⟨K1, hK1⟩ : ∃ K1, K1 = (w.heap.size :: (blks A1 ++ blks A2)) ++ K := ⟨_, rfl⟩
  have hP3 : PM w0 w3 K1 g gx L h M k := by
    rw [hK1]
    refine HP.out.guard hb3 _ (fun j hj => ?_)
    rcases List.mem_cons.1 hj with rfl | hj
    · exact ⟨Nat.le_refl _, blk_lt hbx3⟩
    · rcases List.mem_append.1 hj with hj | hj
      · have := ho1.blk j hj; exact ⟨by omega, this.2⟩
      · have := ho2.blk j hj; exact ⟨by omega, this.2⟩
  have hds : DS w0 w w3 K K1 p g gx w.heap.size op kd ix (.slice A xs.length c) tx :=
    ⟨fun j hj => by rw [hK1]; simp [hj], FrP.new hb3 _, HPR.out.1.new hb3, by rw [hK1]; simp [HPR.out.2], hbx3, by rw [hK1]; simp⟩
  have HO3 := Aside0.mk (show (OwnW w3 (w.alloc (.cells #[.int .i64 op, .int .i64 kd, .int .i64 ix, .slice A xs.length c, .string tx] 59)).heap.size A1 c1 a ∧ ∀ j ∈ blks A1, j ∈ K1) ∧ (OwnW w3 (w.alloc (.cells #[.int .i64 op, .int .i64 kd, .int .i64 ix, .slice A xs.length c, .string tx] 59)).heap.size A2 c2 b ∧ ∀ j ∈ blks A2, j ∈ K1) ∧ All2 (WX ρ) a b ∧ WX ρ u v from
    ⟨⟨ho1, fun j hj => by rw [hK1]; simp [hj]⟩, ⟨ho2, fun j hj => by rw [hK1]; simp [hj]⟩, HO.out.2, huv⟩)
  have HP3 := Aside0.mk hP3
  have HDS := Aside0.mk hds
  have HAL := Aside0.mk (And.intro HAL0.out HO.out.2.1)
  obtain ⟨b0, hb0⟩ : ∃ b0, b0 = w.heap.size := ⟨_, rfl⟩
  rw [← hb0] at k0 HDS ⊢
  clear hb3 ho1 ho2 hsA hbx3 hK1 hP3 hds huv hf3 HD HO H2 HB0 HP HPR hb0
  have hrr := HR.out
  · have t0 : (wrap64 ((IntKind.u64.wrap op).tmod 9) == 0) = false := by rw [hrr, show wrap64 6 = 6 by unfold wrap64; omega]; decide
    have t1 : (wrap64 ((IntKind.u64.wrap op).tmod 9) == 1) = false := by rw [hrr, show wrap64 6 = 6 by unfold wrap64; omega]; decide
    have t2 : (wrap64 ((IntKind.u64.wrap op).tmod 9) == 2) = false := by rw [hrr, show wrap64 6 = 6 by unfold wrap64; omega]; decide
    have t3 : (wrap64 ((IntKind.u64.wrap op).tmod 9) == 3) = false := by rw [hrr, show wrap64 6 = 6 by unfold wrap64; omega]; decide
    have t4 : (wrap64 ((IntKind.u64.wrap op).tmod 9) == 4) = false := by rw [hrr, show wrap64 6 = 6 by unfold wrap64; omega]; decide
    have t5 : (wrap64 ((IntKind.u64.wrap op).tmod 9) == 5) = false := by rw [hrr, show wrap64 6 = 6 by unfold wrap64; omega]; decide
    have t6 : (wrap64 ((IntKind.u64.wrap op).tmod 9) == 6) = true := by rw [hrr, show wrap64 6 = 6 by unfold wrap64; omega]; decide
    clear hrr HR
    go_wp2_with fail
    have hPd := HP3.out.fr0 (Fr.drew [] w3)
    have hsm := HSB.out.2.sm HSB.out.1 (by omega)
    have hrl := HSB.out.2.rl
    have hr2 := HSB.out.1.roots.1
    have HC1 := Aside0.mk (hPd.popL1 (by omega) ix)
    have HD3 := Aside0.mk (show (w3.drew.cell? ⟨p, 0, none⟩ = some (.pointer (some ⟨g, 0, none⟩)) ∧ w3.drew.cell? ⟨p, 1, none⟩ = some (.pointer (some ⟨gx, 0, none⟩)) ∧ w3.drew.cell? ⟨b0, 1, none⟩ = some (.int .i64 kd) ∧ w3.drew.cell? ⟨b0, 2, none⟩ = some (.int .i64 ix) ∧ w3.drew.cell? ⟨b0, 4, none⟩ = some (.string tx)) from HDS.out.drew.held)
    have HBN := Aside0.mk (And.intro hrl hr2)
    unfold ptr at HC1
    clear hPd hsm hrl hr2 k0
    refine start_ (n := 16) (S := (fun w' => w'.cell? ⟨p, 0, none⟩ = some (.pointer (some ⟨g, 0, none⟩)) ∧ w'.cell? ⟨p, 1, none⟩ = some (.pointer (some ⟨gx, 0, none⟩)) ∧ w'.cell? ⟨b0, 1, none⟩ = some (.int .i64 kd) ∧ w'.cell? ⟨b0, 2, none⟩ = some (.int .i64 ix) ∧ w'.cell? ⟨b0, 4, none⟩ = some (.string tx))) (ds := []) #[false, false, false, false, false, false, false, false, false, false, false, false, false, false, false, false] (by kernel_rfl) rfl rfl HD3.out (fun hHeld => ?_)
    refine pure_ (i := 0) (N := some 168) (v := ?_) (a' := ?_) #[true, false, false, false, false, false, false, false, false, false, false, false, false, false, false, false] rfl rfl (by kernel_rfl) (fun _ _ _ h => h) (Or.inl ⟨by rfl, ?_⟩) ?_ ?_
    rotate_left
    · intro w'
      go_simp
      with_reducible rfl
    rotate_left
    · simp only [Act.put, List.setIfInBounds_toArray, List.set_cons_zero, List.set_cons_succ, i64_w, i32_w]
      rfl
    refine pure_ (i := 1) (N := some 169) (v := ?_) (a' := ?_) #[true, true, false, false, false, false, false, false, false, false, false, false, false, false, false, false] rfl rfl (by kernel_rfl) (fun _ _ _ h => h) (Or.inl ⟨by rfl, ?_⟩) ?_ ?_
    rotate_left
    · intro w'
      go_simp
      with_reducible rfl
    rotate_left
    · simp only [Act.put, List.setIfInBounds_toArray, List.set_cons_zero, List.set_cons_succ, i64_w, i32_w]
      rfl
    refine pure_ (i := 2) (N := some 170) (v := ?_) (a' := ?_) #[true, true, true, false, false, false, false, false, false, false, false, false, false, false, false, false] rfl rfl (by kernel_rfl) (fun _ _ _ h => h) (Or.inl ⟨by rfl, ?_⟩) ?_ ?_
    rotate_left
    · intro w'
      go_simp
      with_reducible rfl
    rotate_left
    · simp only [Act.put, List.setIfInBounds_toArray, List.set_cons_zero, List.set_cons_succ, i64_w, i32_w]
      rfl
    refine take_ (i := 3) (N := some 171) (v := ?_) (a' := ?_) #[true, true, true, true, false, false, false, false, false, false, false, false, false, false, false, false] rfl rfl (by kernel_rfl) (fun _ _ _ h => h) (Or.inl ⟨by rfl, ?_⟩) hHeld ?_ ?_
    rotate_left
    · rintro w' ⟨s0, s1, s2, s3, s4⟩
      go_simp
      with_reducible rfl
    rotate_left
    · simp only [Act.put, List.setIfInBounds_toArray, List.set_cons_zero, List.set_cons_succ, i64_w, i32_w]
      rfl
    refine pure_ (i := 4) (N := some 172) (v := ?_) (a' := ?_) #[true, true, true, true, true, false, false, false, false, false, false, false, false, false, false, false] rfl rfl (by kernel_rfl) (fun _ _ _ h => h) (Or.inl ⟨by rfl, ?_⟩) ?_ ?_
    rotate_left
    · intro w'
      go_simp
      with_reducible rfl
    rotate_left
    · simp only [Act.put, List.setIfInBounds_toArray, List.set_cons_zero, List.set_cons_succ, i64_w, i32_w]
      rfl
    refine take_ (i := 5) (N := some 173) (v := ?_) (a' := ?_) #[true, true, true, true, true, true, false, false, false, false, false, false, false, false, false, false] rfl rfl (by kernel_rfl) (fun _ _ _ h => h) (Or.inl ⟨by rfl, ?_⟩) hHeld ?_ ?_
    rotate_left
    · rintro w' ⟨s0, s1, s2, s3, s4⟩
      go_simp
      with_reducible rfl
    rotate_left
    · simp only [Act.put, List.setIfInBounds_toArray, List.set_cons_zero, List.set_cons_succ, i64_w, i32_w]
      rfl
    refine pure_ (i := 7) (N := some 175) (v := ?_) (a' := ?_) #[true, true, true, true, true, true, false, true, false, false, false, false, false, false, false, false] rfl rfl (by kernel_rfl) (fun _ _ _ h => h) (Or.inl ⟨by rfl, ?_⟩) ?_ ?_
    rotate_left
    · intro w'
      go_simp
      with_reducible rfl
    rotate_left
    · simp only [Act.put, List.setIfInBounds_toArray, List.set_cons_zero, List.set_cons_succ, i64_w, i32_w]
      rfl
    refine pure_ (i := 8) (N := some 176) (v := ?_) (a' := ?_) #[true, true, true, true, true, true, false, true, true, false, false, false, false, false, false, false] rfl rfl (by kernel_rfl) (fun _ _ _ h => h) (Or.inl ⟨by rfl, ?_⟩) ?_ ?_
    rotate_left
    · intro w'
      go_simp
      with_reducible rfl
    rotate_left
    · simp only [Act.put, List.setIfInBounds_toArray, List.set_cons_zero, List.set_cons_succ, i64_w, i32_w]
      rfl
    refine pure_ (i := 9) (N := some 177) (v := ?_) (a' := ?_) #[true, true, true, true, true, true, false, true, true, true, false, false, false, false, false, false] rfl rfl (by kernel_rfl) (fun _ _ _ h => h) (Or.inl ⟨by rfl, ?_⟩) ?_ ?_
    rotate_left
    · intro w'
      go_simp
      with_reducible rfl
    rotate_left
    · simp only [Act.put, List.setIfInBounds_toArray, List.set_cons_zero, List.set_cons_succ, i64_w, i32_w]
      rfl
    refine take_ (i := 10) (N := some 178) (v := ?_) (a' := ?_) #[true, true, true, true, true, true, false, true, true, true, true, false, false, false, false, false] rfl rfl (by kernel_rfl) (fun _ _ _ h => h) (Or.inl ⟨by rfl, ?_⟩) hHeld ?_ ?_
    rotate_left
    · rintro w' ⟨s0, s1, s2, s3, s4⟩
      go_simp
      with_reducible rfl
    rotate_left
    · simp only [Act.put, List.setIfInBounds_toArray, List.set_cons_zero, List.set_cons_succ, i64_w, i32_w]
      rfl
    refine pure_ (i := 11) (N := some 179) (v := ?_) (a' := ?_) #[true, true, true, true, true, true, false, true, true, true, true, true, false, false, false, false] rfl rfl (by kernel_rfl) (fun _ _ _ h => h) (Or.inl ⟨by rfl, ?_⟩) ?_ ?_
    rotate_left
    · intro w'
      go_simp
      with_reducible rfl
    rotate_left
    · simp only [Act.put, List.setIfInBounds_toArray, List.set_cons_zero, List.set_cons_succ, i64_w, i32_w]
      rfl
    refine take_ (i := 12) (N := some 180) (v := ?_) (a' := ?_) #[true, true, true, true, true, true, false, true, true, true, true, true, true, false, false, false] rfl rfl (by kernel_rfl) (fun _ _ _ h => h) (Or.inl ⟨by rfl, ?_⟩) hHeld ?_ ?_
    rotate_left
    · rintro w' ⟨s0, s1, s2, s3, s4⟩
      go_simp
      with_reducible rfl
    rotate_left
    · simp only [Act.put, List.setIfInBounds_toArray, List.set_cons_zero, List.set_cons_succ, i64_w, i32_w]
      rfl
    refine one_ (i := 6) (N := some 174) #[true, true, true, true, true, true, true, true, true, true, true, true, true, false, false, false] rfl rfl (by kernel_rfl) (by decide) (fun KK hK => ?_)
    refine goes_ Try.func29 (by kernel_rfl) rfl #[.pointer (some ⟨g, 0, none⟩), .int .i64 ix] (by rfl) rfl rfl (by simp only [List.map_toArray, List.map_cons, List.map_nil]; rfl) ?_
    refine HC1.out.mono ?_
    rintro e w4 ⟨er1, r1, hp1, rfl, hm1, hf1⟩
    have hd4 := HDS.out.drew.step hf1
    refine ⟨_, rfl, ?_⟩
    refine hK.out _ _ hd4.held (fun hHeld => ?_)
    clear hK KK
    refine norm_ (a' := ?_) ?_ ?_
    rotate_left
    · show Act.put _ (some 174) _ = _
      simp only [Act.put, List.setIfInBounds_toArray, List.set_cons_zero, List.set_cons_succ, i64_w, i32_w]
      rfl
    have HC2 := Aside0.mk (hm1.popR1 (by have := HBN.out; omega) ix)
    have H4 := Aside0.mk (And.intro hp1 (And.intro hm1 (And.intro hf1 hd4)))
    unfold ptr at HC2
    clear hp1 hm1 hf1 hd4 HC1
    refine one_ (i := 13) (N := some 181) #[true, true, true, true, true, true, true, true, true, true, true, true, true, true, false, false] rfl rfl (by kernel_rfl) (by decide) (fun KK hK => ?_)
    refine goes_ Try.func52 (by kernel_rfl) rfl #[.pointer (some ⟨gx, 0, none⟩), .int .i64 ix] (by rfl) rfl rfl (by simp only [List.map_toArray, List.map_cons, List.map_nil]; rfl) ?_
    refine HC2.out.mono ?_
    rintro e w5 ⟨er2, r2, hp2, rfl, hm2, hf2⟩
    have hd5 := H4.out.2.2.2.step hf2
    have hsi := HSB.out.1.popB HSB.out.2 H4.out.1 hp2
    obtain ⟨rfl, hsi⟩ := hsi
    refine ⟨_, rfl, ?_⟩
    refine hK.out _ _ hd5.held (fun hHeld => ?_)
    clear hK KK
    refine norm_ (a' := ?_) ?_ ?_
    rotate_left
    · show Act.put _ (some 181) _ = _
      simp only [Act.put, List.setIfInBounds_toArray, List.set_cons_zero, List.set_cons_succ, i64_w, i32_w]
      rfl
    have H5 := Aside0.mk (And.intro hm2 (And.intro hd5 hsi))
    clear hp2 hm2 hf2 hd5 hsi HC2
    refine pure_ (i := 14) (N := some 182) (v := ?_) (a' := ?_) #[true, true, true, true, true, true, true, true, true, true, true, true, true, true, true, false] rfl rfl (by kernel_rfl) (fun _ _ _ h => h) (Or.inl ⟨by rfl, ?_⟩) ?_ ?_
    rotate_left
    · intro w'
      go_simp
      with_reducible rfl
    rotate_left
    · simp only [Act.put, List.setIfInBounds_toArray, List.set_cons_zero, List.set_cons_succ, i64_w, i32_w]
      rfl
    refine pure_ (i := 15) (N := some 4) (v := ?_) (a' := ?_) #[true, true, true, true, true, true, true, true, true, true, true, true, true, true, true, true] rfl rfl (by kernel_rfl) (fun _ _ _ h => h) (Or.inl ⟨by rfl, ?_⟩) ?_ ?_
    rotate_left
    · intro w'
      go_simp
      with_reducible rfl
    rotate_left
    · simp only [Act.put, List.setIfInBounds_toArray, List.set_cons_zero, List.set_cons_succ, i64_w, i32_w]
      rfl
    refine done_ (by kernel_rfl) ?_
    go_wp2_with fail
    go_returns
    obtain ⟨hm5, hd5, hs5, hb5⟩ := H5.out
    have := hd5.fin hm5 hs5 hb5.up.up
    simpa using this
set_option maxRecDepth 100000 in
set_option maxHeartbeats 4000000 in
theorem does_collect (P : PM w0 w K g gx L h M k) (s : Sim ρ L h M k) (bd : Bnd n L h M k) (hn : n ≤ 900) (hpr : PrAt w p g gx) (hpK : p ∈ K) {A : Option Addr} {c : Nat} {xs : List Int} (hxs : IntsAt w A xs) (hxl : xs.length ≤ 10000000) (op kd ix : Int) (tx : ByteArray) (htx : tx.size ≤ 1000000000) (hr : (IntKind.u64.wrap op).tmod 9 = 7) :
    Calls Try.prog 25 #[ptr p, .agg #[.int .i64 op, .int .i64 kd, .int .i64 ix, .slice A xs.length c, .string tx]] w (DoesOk w0 w K g gx n) := by
  have hb0 : Below w.heap.size w (w.alloc (.cells #[.int .i64 op, .int .i64 kd, .int .i64 ix, .slice A xs.length c, .string tx] 59)) := (Below.refl _ _).alloc (Nat.le_refl _) _
  have hbox0 := heap_alloc_new w (.cells #[.int .i64 op, .int .i64 kd, .int .i64 ix, .slice A xs.length c, .string tx] 59)
  have HWD := Aside0.mk (words_calls (c := c) (P.new hb0) s (by have := bd.rl; omega) (hpr.new hb0) (hxs.new hb0) hxl)
  have HP := Aside0.mk P
  have HSB := Aside0.mk (And.intro s bd)
  have HPR := Aside0.mk (And.intro hpr hpK)
  have HB0 := Aside0.mk (And.intro hb0 hbox0)
  have HR := Aside0.mk hr
  unfold ptr
  unfold ptr at HWD
  clear P s hpr hpK hb0 hbox0 hr hxs
  go_enter Try.func25, Try.ntmps25
  go_wp2_with fail
  refine HWD.out.mono ?_
  rintro e w2 ⟨A1, c1, A2, c2, a, b, rfl, hab, hal, ho1, ho2, hb2⟩
  have hbA := HB0.out.1.trans (Below.mono hb2 HB0.out.1.size)
  have hPw := HP.out.new hbA
  have hprw := HPR.out.1.new hbA
  have HD := Aside0.mk (word_calls hPw HSB.out.1 (by have := bd.rl; omega) hprw ix)
  have hbx2 := (FrP.ofBelow hb2).get HB0.out.2 (by simp)
  have k2 : w2.cell? ⟨w.heap.size, 2, none⟩ = some (.int .i64 ix) := (blk_cell hbx2 2).trans rfl
  have H2 := Aside0.mk (show Below w.heap.size w w2 ∧ w2.heap[w.heap.size]? = some (.cells #[.int .i64 op, .int .i64 kd, .int .i64 ix, .slice A xs.length c, .string tx] 59 (0, 0)) from ⟨hbA, hbx2⟩)
  have HO := Aside0.mk (And.intro (And.intro ho1 ho2) hab)
  unfold ptr at HD
  have HAL0 := Aside0.mk hal
  clear hbA hPw hprw hbx2 ho1 ho2 hb2 hab hal HWD
  go_wp2_with fail
  refine HD.out.mono ?_
  rintro e w3 ⟨u, v, rfl, huv, hf3⟩
  have hb3 : Below w.heap.size w w3 := H2.out.1.trans ((FrP.ofFr hf3).below H2.out.1.size (fun i hi => by simp at hi))
  have ho1 := HO.out.1.1.frp (FrP.ofFr hf3) (fun k _ => by simp)
  have ho2 := HO.out.1.2.frp (FrP.ofFr hf3) (fun k _ => by simp)
  have hsA := HB0.out.1.size
  have hbx3 := hf3.get H2.out.2 (by simp)
  have k0 : w3.cell? ⟨w.heap.size, 0, none⟩ = some (.int .i64 op) := (blk_cell hbx3 0).trans rfl
  obtain ⟨K1, hK1⟩ : ∃ K1, K1 = (w.heap.size :: (blks A1 ++ blks A2)) ++ K := ⟨_, rfl⟩
  have hP3 : PM w0 w3 K1 g gx L h M k := by
    rw [hK1]
    refine HP.out.guard hb3 _ (fun j hj => ?_)
    rcases List.mem_cons.1 hj with rfl | hj
    · exact ⟨Nat.le_refl _, blk_lt hbx3⟩
    · rcases List.mem_append.1 hj with hj | hj
      · have := ho1.blk j hj; exact ⟨by omega, this.2⟩
      · have := ho2.blk j hj; exact ⟨by omega, this.2⟩
  have hds : DS w0 w w3 K K1 p g gx w.heap.size op kd ix (.slice A xs.length c) tx :=
    ⟨fun j hj => by rw [hK1]; simp [hj], FrP.new hb3 _, HPR.out.1.new hb3, by rw [hK1]; simp [HPR.out.2], hbx3, by rw [hK1]; simp⟩
  have HO3 := Aside0.mk (show (OwnW w3 (w.alloc (.cells #[.int .i64 op, .int .i64 kd, .int .i64 ix, .slice A xs.length c, .string tx] 59)).heap.size A1 c1 a ∧ ∀ j ∈ blks A1, j ∈ K1) ∧ (OwnW w3 (w.alloc (.cells #[.int .i64 op, .int .i64 kd, .int .i64 ix, .slice A xs.length c, .string tx] 59)).heap.size A2 c2 b ∧ ∀ j ∈ blks A2, j ∈ K1) ∧ All2 (WX ρ) a b ∧ WX ρ u v from
    ⟨⟨ho1, fun j hj => by rw [hK1]; simp [hj]⟩, ⟨ho2, fun j hj => by rw [hK1]; simp [hj]⟩, HO.out.2, huv⟩)
  have HP3 := Aside0.mk hP3
  have HDS := Aside0.mk hds
  have HAL := Aside0.mk (And.intro HAL0.out HO.out.2.1)
  obtain ⟨b0, hb0⟩ : ∃ b0, b0 = w.heap.size := ⟨_, rfl⟩
  rw [← hb0] at k0 HDS ⊢
  clear hb3 ho1 ho2 hsA hbx3 hK1 hP3 hds huv hf3 HD HO H2 HB0 HP HPR hb0
  have hrr := HR.out
  · have t0 : (wrap64 ((IntKind.u64.wrap op).tmod 9) == 0) = false := by rw [hrr, show wrap64 7 = 7 by unfold wrap64; omega]; decide
    have t1 : (wrap64 ((IntKind.u64.wrap op).tmod 9) == 1) = false := by rw [hrr, show wrap64 7 = 7 by unfold wrap64; omega]; decide
    have t2 : (wrap64 ((IntKind.u64.wrap op).tmod 9) == 2) = false := by rw [hrr, show wrap64 7 = 7 by unfold wrap64; omega]; decide
    have t3 : (wrap64 ((IntKind.u64.wrap op).tmod 9) == 3) = false := by rw [hrr, show wrap64 7 = 7 by unfold wrap64; omega]; decide
    have t4 : (wrap64 ((IntKind.u64.wrap op).tmod 9) == 4) = false := by rw [hrr, show wrap64 7 = 7 by unfold wrap64; omega]; decide
    have t5 : (wrap64 ((IntKind.u64.wrap op).tmod 9) == 5) = false := by rw [hrr, show wrap64 7 = 7 by unfold wrap64; omega]; decide
    have t6 : (wrap64 ((IntKind.u64.wrap op).tmod 9) == 6) = false := by rw [hrr, show wrap64 7 = 7 by unfold wrap64; omega]; decide
    have t7 : (wrap64 ((IntKind.u64.wrap op).tmod 9) == 7) = true := by rw [hrr, show wrap64 7 = 7 by unfold wrap64; omega]; decide
    clear hrr HR
    go_wp2_with fail
    have hPd := HP3.out.fr0 (Fr.drew [] w3)
    have hsm := HSB.out.2.sm HSB.out.1 (by omega)
    have hrl := HSB.out.2.rl
    have hr2 := HSB.out.1.roots.1
    have HC1 := Aside0.mk (hPd.collectL hsm (ix.tmod 2 == 0))
    have HD3 := Aside0.mk (show (w3.drew.cell? ⟨p, 0, none⟩ = some (.pointer (some ⟨g, 0, none⟩)) ∧ w3.drew.cell? ⟨p, 1, none⟩ = some (.pointer (some ⟨gx, 0, none⟩)) ∧ w3.drew.cell? ⟨b0, 1, none⟩ = some (.int .i64 kd) ∧ w3.drew.cell? ⟨b0, 2, none⟩ = some (.int .i64 ix) ∧ w3.drew.cell? ⟨b0, 4, none⟩ = some (.string tx)) from HDS.out.drew.held)
    have HBN := Aside0.mk (And.intro hrl hr2)
    unfold ptr at HC1
    clear hPd hsm hrl hr2 k0
    refine start_ (n := 20) (S := (fun w' => w'.cell? ⟨p, 0, none⟩ = some (.pointer (some ⟨g, 0, none⟩)) ∧ w'.cell? ⟨p, 1, none⟩ = some (.pointer (some ⟨gx, 0, none⟩)) ∧ w'.cell? ⟨b0, 1, none⟩ = some (.int .i64 kd) ∧ w'.cell? ⟨b0, 2, none⟩ = some (.int .i64 ix) ∧ w'.cell? ⟨b0, 4, none⟩ = some (.string tx))) (ds := []) #[false, false, false, false, false, false, false, false, false, false, false, false, false, false, false, false, false, false, false, false] (by kernel_rfl) rfl rfl HD3.out (fun hHeld => ?_)
    refine pure_ (i := 0) (N := some 185) (v := ?_) (a' := ?_) #[true, false, false, false, false, false, false, false, false, false, false, false, false, false, false, false, false, false, false, false] rfl rfl (by kernel_rfl) (fun _ _ _ h => h) (Or.inl ⟨by rfl, ?_⟩) ?_ ?_
    rotate_left
    · intro w'
      go_simp
      with_reducible rfl
    rotate_left
    · simp only [Act.put, List.setIfInBounds_toArray, List.set_cons_zero, List.set_cons_succ, i64_w, i32_w]
      rfl
    refine pure_ (i := 1) (N := some 186) (v := ?_) (a' := ?_) #[true, true, false, false, false, false, false, false, false, false, false, false, false, false, false, false, false, false, false, false] rfl rfl (by kernel_rfl) (fun _ _ _ h => h) (Or.inl ⟨by rfl, ?_⟩) ?_ ?_
    rotate_left
    · intro w'
      go_simp
      with_reducible rfl
    rotate_left
    · simp only [Act.put, List.setIfInBounds_toArray, List.set_cons_zero, List.set_cons_succ, i64_w, i32_w]
      rfl
    refine pure_ (i := 2) (N := some 187) (v := ?_) (a' := ?_) #[true, true, true, false, false, false, false, false, false, false, false, false, false, false, false, false, false, false, false, false] rfl rfl (by kernel_rfl) (fun _ _ _ h => h) (Or.inl ⟨by rfl, ?_⟩) ?_ ?_
    rotate_left
    · intro w'
      go_simp
      with_reducible rfl
    rotate_left
    · simp only [Act.put, List.setIfInBounds_toArray, List.set_cons_zero, List.set_cons_succ, i64_w, i32_w]
      rfl
    refine take_ (i := 3) (N := some 188) (v := ?_) (a' := ?_) #[true, true, true, true, false, false, false, false, false, false, false, false, false, false, false, false, false, false, false, false] rfl rfl (by kernel_rfl) (fun _ _ _ h => h) (Or.inl ⟨by rfl, ?_⟩) hHeld ?_ ?_
    rotate_left
    · rintro w' ⟨s0, s1, s2, s3, s4⟩
      go_simp
      with_reducible rfl
    rotate_left
    · simp only [Act.put, List.setIfInBounds_toArray, List.set_cons_zero, List.set_cons_succ, i64_w, i32_w]
      rfl
    refine pure_ (i := 4) (N := some 189) (v := ?_) (a' := ?_) #[true, true, true, true, true, false, false, false, false, false, false, false, false, false, false, false, false, false, false, false] rfl rfl (by kernel_rfl) (fun _ _ _ h => h) (Or.inl ⟨by rfl, ?_⟩) ?_ ?_
    rotate_left
    · intro w'
      go_simp
      with_reducible rfl
    rotate_left
    · simp only [Act.put, List.setIfInBounds_toArray, List.set_cons_zero, List.set_cons_succ, i64_w, i32_w]
      rfl
    refine take_ (i := 5) (N := some 190) (v := ?_) (a' := ?_) #[true, true, true, true, true, true, false, false, false, false, false, false, false, false, false, false, false, false, false, false] rfl rfl (by kernel_rfl) (fun _ _ _ h => h) (Or.inl ⟨by rfl, ?_⟩) hHeld ?_ ?_
    rotate_left
    · rintro w' ⟨s0, s1, s2, s3, s4⟩
      go_simp
      with_reducible rfl
    rotate_left
    · simp only [Act.put, List.setIfInBounds_toArray, List.set_cons_zero, List.set_cons_succ, i64_w, i32_w]
      rfl
    refine pure_ (i := 6) (N := some 191) (v := ?_) (a' := ?_) #[true, true, true, true, true, true, true, false, false, false, false, false, false, false, false, false, false, false, false, false] rfl rfl (by kernel_rfl) (fun _ _ _ h => h) (Or.inl ⟨by rfl, ?_⟩) ?_ ?_
    rotate_left
    · intro w'
      go_simp
      with_reducible rfl
    rotate_left
    · simp only [Act.put, List.setIfInBounds_toArray, List.set_cons_zero, List.set_cons_succ, i64_w, i32_w]
      rfl
    refine pure_ (i := 7) (N := some 192) (v := ?_) (a' := ?_) #[true, true, true, true, true, true, true, true, false, false, false, false, false, false, false, false, false, false, false, false] rfl rfl (by kernel_rfl) (fun _ _ _ h => h) (Or.inl ⟨by rfl, ?_⟩) ?_ ?_
    rotate_left
    · intro w'
      go_simp
      with_reducible rfl
    rotate_left
    · simp only [Act.put, List.setIfInBounds_toArray, List.set_cons_zero, List.set_cons_succ, i64_w, i32_w]
      rfl
    refine pure_ (i := 9) (N := some 194) (v := ?_) (a' := ?_) #[true, true, true, true, true, true, true, true, false, true, false, false, false, false, false, false, false, false, false, false] rfl rfl (by kernel_rfl) (fun _ _ _ h => h) (Or.inl ⟨by rfl, ?_⟩) ?_ ?_
    rotate_left
    · intro w'
      go_simp
      with_reducible rfl
    rotate_left
    · simp only [Act.put, List.setIfInBounds_toArray, List.set_cons_zero, List.set_cons_succ, i64_w, i32_w]
      rfl
    refine pure_ (i := 10) (N := some 195) (v := ?_) (a' := ?_) #[true, true, true, true, true, true, true, true, false, true, true, false, false, false, false, false, false, false, false, false] rfl rfl (by kernel_rfl) (fun _ _ _ h => h) (Or.inl ⟨by rfl, ?_⟩) ?_ ?_
    rotate_left
    · intro w'
      go_simp
      with_reducible rfl
    rotate_left
    · simp only [Act.put, List.setIfInBounds_toArray, List.set_cons_zero, List.set_cons_succ, i64_w, i32_w]
      rfl
    refine pure_ (i := 11) (N := some 196) (v := ?_) (a' := ?_) #[true, true, true, true, true, true, true, true, false, true, true, true, false, false, false, false, false, false, false, false] rfl rfl (by kernel_rfl) (fun _ _ _ h => h) (Or.inl ⟨by rfl, ?_⟩) ?_ ?_
    rotate_left
    · intro w'
      go_simp
      with_reducible rfl
    rotate_left
    · simp only [Act.put, List.setIfInBounds_toArray, List.set_cons_zero, List.set_cons_succ, i64_w, i32_w]
      rfl
    refine take_ (i := 12) (N := some 197) (v := ?_) (a' := ?_) #[true, true, true, true, true, true, true, true, false, true, true, true, true, false, false, false, false, false, false, false] rfl rfl (by kernel_rfl) (fun _ _ _ h => h) (Or.inl ⟨by rfl, ?_⟩) hHeld ?_ ?_
    rotate_left
    · rintro w' ⟨s0, s1, s2, s3, s4⟩
      go_simp
      with_reducible rfl
    rotate_left
    · simp only [Act.put, List.setIfInBounds_toArray, List.set_cons_zero, List.set_cons_succ, i64_w, i32_w]
      rfl
    refine pure_ (i := 13) (N := some 198) (v := ?_) (a' := ?_) #[true, true, true, true, true, true, true, true, false, true, true, true, true, true, false, false, false, false, false, false] rfl rfl (by kernel_rfl) (fun _ _ _ h => h) (Or.inl ⟨by rfl, ?_⟩) ?_ ?_
    rotate_left
    · intro w'
      go_simp
      with_reducible rfl
    rotate_left
    · simp only [Act.put, List.setIfInBounds_toArray, List.set_cons_zero, List.set_cons_succ, i64_w, i32_w]
      rfl
    refine take_ (i := 14) (N := some 199) (v := ?_) (a' := ?_) #[true, true, true, true, true, true, true, true, false, true, true, true, true, true, true, false, false, false, false, false] rfl rfl (by kernel_rfl) (fun _ _ _ h => h) (Or.inl ⟨by rfl, ?_⟩) hHeld ?_ ?_
    rotate_left
    · rintro w' ⟨s0, s1, s2, s3, s4⟩
      go_simp
      with_reducible rfl
    rotate_left
    · simp only [Act.put, List.setIfInBounds_toArray, List.set_cons_zero, List.set_cons_succ, i64_w, i32_w]
      rfl
    refine pure_ (i := 15) (N := some 200) (v := ?_) (a' := ?_) #[true, true, true, true, true, true, true, true, false, true, true, true, true, true, true, true, false, false, false, false] rfl rfl (by kernel_rfl) (fun _ _ _ h => h) (Or.inl ⟨by rfl, ?_⟩) ?_ ?_
    rotate_left
    · intro w'
      go_simp
      with_reducible rfl
    rotate_left
    · simp only [Act.put, List.setIfInBounds_toArray, List.set_cons_zero, List.set_cons_succ, i64_w, i32_w]
      rfl
    refine pure_ (i := 16) (N := some 201) (v := ?_) (a' := ?_) #[true, true, true, true, true, true, true, true, false, true, true, true, true, true, true, true, true, false, false, false] rfl rfl (by kernel_rfl) (fun _ _ _ h => h) (Or.inl ⟨by rfl, ?_⟩) ?_ ?_
    rotate_left
    · intro w'
      go_simp
      with_reducible rfl
    rotate_left
    · simp only [Act.put, List.setIfInBounds_toArray, List.set_cons_zero, List.set_cons_succ, i64_w, i32_w]
      rfl
    refine one_ (i := 8) (N := some 193) #[true, true, true, true, true, true, true, true, true, true, true, true, true, true, true, true, true, false, false, false] rfl rfl (by kernel_rfl) (by decide) (fun KK hK => ?_)
    refine goes_ Try.func17 (by kernel_rfl) rfl #[.pointer (some ⟨g, 0, none⟩), .bool (ix.tmod 2 == 0)] (by rfl) rfl rfl (by simp only [List.map_toArray, List.map_cons, List.map_nil]; rfl) ?_
    refine HC1.out.mono ?_
    rintro e w4 ⟨rfl, hm1, hf1⟩
    have hd4 := HDS.out.drew.step hf1
    refine ⟨_, rfl, ?_⟩
    refine hK.out _ _ hd4.held (fun hHeld => ?_)
    clear hK KK
    refine norm_ (a' := ?_) ?_ ?_
    rotate_left
    · show Act.put _ (some 193) _ = _
      simp only [Act.put, List.setIfInBounds_toArray, List.set_cons_zero, List.set_cons_succ, i64_w, i32_w]
      rfl
    have HC2 := Aside0.mk (hm1.collectR (HSB.out.2.smt HSB.out.1 (by omega)) (ix.tmod 2 == 0))
    have H4 := Aside0.mk (And.intro trivial (And.intro hm1 (And.intro hf1 hd4)))
    unfold ptr at HC2
    clear hm1 hf1 hd4 HC1
    refine one_ (i := 17) (N := some 202) #[true, true, true, true, true, true, true, true, true, true, true, true, true, true, true, true, true, true, false, false] rfl rfl (by kernel_rfl) (by decide) (fun KK hK => ?_)
    refine goes_ Try.func21 (by kernel_rfl) rfl #[.pointer (some ⟨gx, 0, none⟩), .bool (ix.tmod 2 == 0)] (by rfl) rfl rfl (by simp only [List.map_toArray, List.map_cons, List.map_nil]; rfl) ?_
    refine HC2.out.mono ?_
    rintro e w5 ⟨er2, M2, k2, hp2, rfl, hm2, hf2⟩
    have hd5 := H4.out.2.2.2.step hf2
    have hsi := HSB.out.1.col HP3.out.tapart _ hp2
    have hsi := And.intro hsi (HSB.out.2.col (by omega) _ hp2)
    refine ⟨_, rfl, ?_⟩
    refine hK.out _ _ hd5.held (fun hHeld => ?_)
    clear hK KK
    refine norm_ (a' := ?_) ?_ ?_
    rotate_left
    · show Act.put _ (some 202) _ = _
      simp only [Act.put, List.setIfInBounds_toArray, List.set_cons_zero, List.set_cons_succ, i64_w, i32_w]
      rfl
    have H5 := Aside0.mk (And.intro hm2 (And.intro hd5 hsi))
    clear hp2 hm2 hf2 hd5 hsi HC2
    refine pure_ (i := 18) (N := some 203) (v := ?_) (a' := ?_) #[true, true, true, true, true, true, true, true, true, true, true, true, true, true, true, true, true, true, true, false] rfl rfl (by kernel_rfl) (fun _ _ _ h => h) (Or.inl ⟨by rfl, ?_⟩) ?_ ?_
    rotate_left
    · intro w'
      go_simp
      with_reducible rfl
    rotate_left
    · simp only [Act.put, List.setIfInBounds_toArray, List.set_cons_zero, List.set_cons_succ, i64_w, i32_w]
      rfl
    refine pure_ (i := 19) (N := some 4) (v := ?_) (a' := ?_) #[true, true, true, true, true, true, true, true, true, true, true, true, true, true, true, true, true, true, true, true] rfl rfl (by kernel_rfl) (fun _ _ _ h => h) (Or.inl ⟨by rfl, ?_⟩) ?_ ?_
    rotate_left
    · intro w'
      go_simp
      with_reducible rfl
    rotate_left
    · simp only [Act.put, List.setIfInBounds_toArray, List.set_cons_zero, List.set_cons_succ, i64_w, i32_w]
      rfl
    refine done_ (by kernel_rfl) ?_
    go_wp2_with fail
    go_returns
    obtain ⟨hm5, hd5, ⟨he5, ρ2, hs5⟩, hb5⟩ := H5.out
    have := hd5.fin hm5 hs5 hb5.up
    rw [he5]
    simpa using this
end
end Go.Proofs.Ytlghnldlkbgajaa.S
