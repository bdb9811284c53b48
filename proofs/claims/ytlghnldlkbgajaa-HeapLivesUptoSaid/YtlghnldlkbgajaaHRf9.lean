
/- heap: the document's heap: moved. -/
import Derived.Test.YtlghnldlkbgajaaHRf8
namespace Go.Proofs.Ytlghnldlkbgajaa.S
open Go.RowKit Go.Proofs.YtlghnldlkbgajaaW.PrintWords Go.Proofs.YtlghnldlkbgajaaW.PrintLast Go.Proofs.YtlghnldlkbgajaaW.PrintMore
set_option linter.unusedVariables false
set_option linter.unusedSimpArgs false
section
variable {w : World} {g rc sc : Nat} {V : Value} {R SA : Option Addr} {S : List OW} {h : RS}
theorem age_step {w0 b : Nat} {wr : World} {m : List (Int × Int)} {W0 : World} {S0 S1 : List OW} (M : MvS W0 wr g V R rc SA sc S0 S1 h b m) {i : Nat} (hi : i < S1.length) (n : Int) :
    MvS W0 (((wr.setCell ⟨S1[i].t, 0, none⟩ (.int .i64 n)).setCell ⟨S1[i].t, 4, none⟩ (.bool true)).setCell ⟨S1[i].t, 5, none⟩ (.bool false)) g V R rc SA sc S0 (S1.set i (S1[i].aged n)) h b m := by
  have hx := List.getElem_mem hi
  have hob := M.q.ob _ hx
  have f1 := Fr.set wr S1[i].t 0 (.int .i64 n)
  have f2 := Fr.set (wr.setCell ⟨S1[i].t, 0, none⟩ (.int .i64 n)) S1[i].t 4 (.bool true)
  have f3 := Fr.set ((wr.setCell ⟨S1[i].t, 0, none⟩ (.int .i64 n)).setCell ⟨S1[i].t, 4, none⟩ (.bool true)) S1[i].t 5 (.bool false)
  have f := (f1.trans f2).trans f3
  refine M.obj hi (S1[i].aged n) rfl rfl rfl (T := (· ∈ [S1[i].t])) (FrP.ofFr f) (fun k hk => .inl (by simpa using hk)) ?_ (fun hne => (M.q.row _ hx).fr f (fun hn2 => by simpa using (M.q.ne_tf hx hx hn2).symm) hne)
  exact blk_put (blk_put (blk_put hob 0 (.int .i64 n) rfl) 4 (.bool true) rfl) 5 (.bool false) rfl
theorem MvS.root {W0 w : World} {b rb : Nat} {m : List (Int × Int)} {S0 S1 : List OW} (M : MvS W0 w g V (some ⟨rb, 0, none⟩) rc SA sc S0 S1 h b m) {i : Nat} (hi : i < h.roots.length) (v : Int) :
    MvS W0 (w.setCell ⟨rb, i, none⟩ (.int .i64 v)) g V (some ⟨rb, 0, none⟩) rc SA sc S0 S1 { h with roots := h.roots.set i v } b m := by
  have hf := Fr.set w rb i (.int .i64 v)
  have hfq : FrP (FootQ g (some ⟨rb, 0, none⟩) S1) w (w.setCell ⟨rb, i, none⟩ (.int .i64 v)) := (FrP.ofFr hf).mono (fun k _ hk => .inr (.inl (by
    have hk : k = rb := by simpa using hk
    rw [hk])))
  refine ⟨M.q.setRoot hi v, M.ps.foot M.q hfq, M.mp.frp hfq (fun hk => ?_), M.fr.trans (hfq.mono (fun k _ hk => M.ft k hk)), M.bn, M.ft, M.lt⟩
  have := M.lt _ (M.ft _ hk)
  have := M.bn
  omega
theorem set_getD (l : List Int) {j : Nat} (hj : j < l.length) : l.set j (l.getD j 0) = l := by
  refine List.ext_getElem (by simp) fun i h1 h2 => ?_
  rw [List.getElem_set]
  split
  · next e => subst e; simp [List.getD, hj]
  · rfl
theorem turn_same {x : OW} {tt : List (Int × Int)} {j : Nat} (hj : j < x.o.fs.length) (hg : toGet tt (x.o.fs.getD j 0) = none) : x.turn tt (j + 1) = x.turn tt j := by
  unfold OW.turn
  rw [part_succ tt x.o hj]
  have e : ren tt (x.o.fs.getD j 0) = (x.o.part tt j).fs.getD j 0 := by
    rw [part_get tt x.o hj]
    unfold ren
    rw [hg]
    rfl
  rw [e]
  congr 1
  unfold PO.set
  rw [set_getD _ (by rw [part_len]; exact hj)]
theorem turn_step {W0 w : World} {b : Nat} {m tt : List (Int × Int)} {S0 S1 : List OW} {i j : Nat} (hi : i < S1.length) (M : MvS W0 w g V R rc SA sc S0 (stB tt i j S1) h b m) (hj : j < S1[i].o.fs.length) :
    MvS W0 (w.setCell ⟨S1[i].fb, j, none⟩ (.int .i64 (ren tt (S1[i].o.fs.getD j 0)))) g V R rc SA sc S0 (stB tt i (j + 1) S1) h b m := by
  have hi2 : i < (stB tt i j S1).length := by rw [stB_len]; exact hi
  have hx : (stB tt i j S1)[i] = S1[i].turn tt j := by rw [stB_get tt i j S1 hi]; simp
  have hmem := List.getElem_mem hi2
  rw [← stB_set tt hi]
  have hlen : (S1[i].turn tt j).o.fs.length = S1[i].o.fs.length := part_len tt j _
  have hlen1 : (S1[i].turn tt (j + 1)).o.fs.length = S1[i].o.fs.length := part_len tt (j + 1) _
  have hne : (stB tt i j S1)[i].o.fs ≠ [] := by rw [hx, ← List.length_pos_iff, hlen]; omega
  have hf := Fr.set w S1[i].fb j (.int .i64 (ren tt (S1[i].o.fs.getD j 0)))
  have hfb : (stB tt i j S1)[i].fb = S1[i].fb := by rw [hx]; rfl
  have hob := hf.get (M.q.ob _ hmem) (by have := M.q.ne_tf hmem hmem hne; rw [hfb] at this; simpa using this)
  obtain ⟨hA, hrow⟩ := M.q.row _ hmem hne
  have hps := part_succ tt S1[i].o hj
  have hset : (S1[i].turn tt (j + 1)).o.fs = ((stB tt i j S1)[i].o.fs).set j (ren tt (S1[i].o.fs.getD j 0)) := by
    rw [hx]
    show (S1[i].o.part tt (j + 1)).fs = _
    rw [hps]
    rfl
  refine M.obj hi2 (S1[i].turn tt (j + 1)) (by rw [hx]; rfl) (by rw [hx]; rfl) (by rw [hx, hlen, hlen1]) (T := (· ∈ [S1[i].fb])) (FrP.ofFr hf) (fun k hk => .inr ⟨hne, by rw [hfb]; simpa using hk⟩) ?_ (fun _ => ?_)
  · have e : (S1[i].turn tt (j + 1)).robj = (stB tt i j S1)[i].robj := by
      unfold OW.robj
      rw [hlen1, hx, hlen]
      rfl
    rw [e]
    rw [hx] at hob ⊢
    exact hob
  · refine ⟨?_, ?_⟩
    · have := hA
      rw [hx] at this
      exact this
    · rw [hset]
      have := hrow.set j (ren tt (S1[i].o.fs.getD j 0))
      rw [hfb] at this
      exact this
set_option maxRecDepth 100000 in
set_option maxHeartbeats 4000000 in
theorem moved_calls (H : HQ w g V R rc S h) (P : Ptrs w (.slice SA S.length sc) S) (hk : S.Pairwise fun x y => x.k ≠ y.k) (hn : S.length ≤ 100000) (hnx : 0 ≤ h.nx ∧ h.nx ≤ 900000000000) (hfl : ∀ x ∈ S, x.o.fs.length ≤ 1000) (hrl : h.roots.length ≤ 1000000) :
    Calls Try.prog 63 #[ptr g, .slice SA S.length sc] w fun e w' => e = .returned (.tuple #[]) ∧ MvS w w' g (.slice SA S.length sc) R rc SA sc S (stB (stT h.nx S) S.length 0 (stA h.nx S.length S)) { h with nx := h.nx + 2 * (S.length : Int), roots := h.roots.map (ren (stT h.nx S)) } w.heap.size (stT h.nx S) := by
  have hmm := @run_makeMap Try.prog
  have hb0 : Below w.heap.size w (w.alloc (.map #[] 0)) := (Below.refl _ _).alloc (Nat.le_refl _) _
  have hM0 : MvS w (w.alloc (.map #[] 0)) g V R rc SA sc S (stA h.nx 0 S) { h with nx := h.nx + 2 * ((0 : Nat) : Int) } w.heap.size (stT h.nx (S.take 0)) := by
    have e : ({ h with nx := h.nx + 2 * ((0 : Nat) : Int) } : RS) = h := by cases h; simp
    rw [stA_zero, e]
    exact ⟨H.new hb0, P.new hb0, MapIs.new w, FrP.new hb0 _, Nat.le_refl _, fun _ hk => hk, fun k hk => H.foot_lt hk⟩
  have HM0 := Aside0.mk hM0
  have HK := Aside0.mk hk
  have HN := Aside0.mk hn
  have HNX := Aside0.mk hnx
  have HFL := Aside0.mk hfl
  have HRL := Aside0.mk hrl
  unfold ptr
  clear H P hk hn hnx hfl hrl hb0 hM0
  go_enter Try.func63, Try.ntmps63
  go_wp2_with fail
  go_loopw [20] (fun v wr => ∃ i : Nat, v = .int .i64 i ∧ Aside0 (i ≤ S.length) ∧ Aside0 (MvS w wr g V R rc SA sc S (stA h.nx i S) { h with nx := h.nx + 2 * (i : Int) } w.heap.size (stT h.nx (S.take i)))) (fun v wr => S.length - (intOf v).toNat)
  case atStart => exact ⟨0, rfl, ⟨Nat.zero_le _⟩, HM0⟩
  case round =>
    clear HM0
    obtain ⟨i, rfl, hi, HM⟩ := hrel
    have hn := HN.out
    have hnx := HNX.out
    by_cases hlt : i < S.length
    · have hltb : decide ((i : Int) < (S.length : Int)) = true := decide_eq_true (by omega)
      have hil : (i : Int) < (S.length : Int) := by omega
      have hli : i < (stA h.nx i S).length := by rw [stA_len]; exact hlt
      have hsame : (stA h.nx i S)[i] = S[i] := by rw [stA_get h.nx i S hlt, if_neg (Nat.lt_irrefl i)]
      obtain ⟨q, hA, qc⟩ := HM.out.ps.at hli
      rw [hsame] at qc
      rw [hA]
      have hmem := List.getElem_mem hli
      rw [hsame] at hmem
      have hob := HM.out.q.ob _ hmem
      obtain ⟨x, hx⟩ : ∃ x, x = S[i] := ⟨_, rfl⟩
      rw [← hx] at qc hob hmem
      obtain ⟨nx1, hnx1⟩ : ∃ n, n = h.nx + 2 * (i : Int) := ⟨_, rfl⟩
      have k0d : wr.drew.cell? ⟨x.t, 0, none⟩ = some (.int .i64 x.k) := (blk_cell hob 0).trans rfl
      have c4d : wr.drew.cell? ⟨g, 4, none⟩ = some (.int .i64 nx1) := by rw [hnx1]; exact HM.out.q.c4
      have hmiss : get? (toV (stT h.nx (S.take i))) x.k = none := by
        rw [toV_get]
        cases hg : toGet (stT h.nx (S.take i)) x.k with
        | none => rfl
        | some n =>
          exfalso
          unfold toGet at hg
          obtain ⟨p, hp, -⟩ := Option.map_eq_some_iff.1 hg
          have h1 := List.mem_of_find?_eq_some hp
          have h2 : p.1 = x.k := by simpa using List.find?_some hp
          have h3 : x.k ∈ (stT h.nx (S.take i)).map (·.1) := List.mem_map.2 ⟨p, h1, h2⟩
          rw [stT_keys] at h3
          obtain ⟨y, hy, e⟩ := List.mem_map.1 h3
          obtain ⟨j, hj, rfl⟩ := List.mem_iff_getElem.1 hy
          rw [List.length_take] at hj
          rw [List.getElem_take] at e
          rw [hx] at e
          exact (List.pairwise_iff_getElem.1 HK.out j i (by omega) hlt (by omega)) e
      obtain ⟨w2, hu, hm2, hb2⟩ := map_update (P := Try.prog) Try.underlying85 Try.underlying28 (HM.out.fr0 (Fr.drew [] wr)).mp x.k (.int .i64 nx1)
      have hap : put (toV (stT h.nx (S.take i))) x.k (.int .i64 nx1) = toV (stT h.nx (S.take (i + 1))) := by
        rw [put_new hmiss, stT_take h.nx hlt, ← hx, hnx1]
        unfold toV
        rw [List.map_append]
        rfl
      rw [hap] at hm2
      have hM2 := (HM.out.fr0 (Fr.drew [] wr)).put hm2 hb2
      have h2x : (stA h.nx i S)[i].t = x.t := by rw [hsame, hx]
      have hM3 := age_step (w0 := 0) hM2 hli nx1
      rw [h2x] at hM3
      have hs3 : (stA h.nx i S).set i ((stA h.nx i S)[i].aged nx1) = stA h.nx (i + 1) S := by rw [hsame, hnx1]; exact stA_set h.nx hlt
      rw [hs3] at hM3
      have hob2 := hM2.q.ob _ hmem
      have c4 : w2.cell? ⟨g, 4, none⟩ = some (.int .i64 nx1) := by rw [hnx1]; exact hM2.q.c4
      have f0 : w2.frozen? ⟨x.t, 0, none⟩ = false := blk_frozen hob2 0
      have f4 : w2.frozen? ⟨x.t, 4, none⟩ = false := blk_frozen hob2 4
      have f5 : w2.frozen? ⟨x.t, 5, none⟩ = false := blk_frozen hob2 5
      have k0 : w2.cell? ⟨x.t, 0, none⟩ = some (.int .i64 x.k) := (blk_cell hob2 0).trans rfl
      have k4 : w2.cell? ⟨x.t, 4, none⟩ = some (.bool x.o.old) := (blk_cell hob2 4).trans rfl
      have k5 : w2.cell? ⟨x.t, 5, none⟩ = some (.bool x.o.noted) := (blk_cell hob2 5).trans rfl
      have hgx : x.t ≠ g := hM2.q.ne_gt hmem
      obtain ⟨w3, hw3⟩ : ∃ w3, w3 = ((w2.setCell ⟨x.t, 0, none⟩ (.int .i64 nx1)).setCell ⟨x.t, 4, none⟩ (.bool true)).setCell ⟨x.t, 5, none⟩ (.bool false) := ⟨_, rfl⟩
      rw [← hw3] at hM3
      have hg3 := hM3.turned (h' := { h with nx := h.nx + 2 * ((i + 1 : Nat) : Int) }) (V' := V) (Fr.set w3 g 4 (.int .i64 (nx1 + 2))) (by
        rw [blk_put hM3.q.hp 4 (.int .i64 (nx1 + 2)) rfl]
        simp [rsObj]
        omega) rfl
      have c43 : w3.cell? ⟨g, 4, none⟩ = some (.int .i64 nx1) := by rw [hnx1]; exact hM3.q.c4
      have f43 : w3.frozen? ⟨g, 4, none⟩ = false := hM3.q.fz 4
      have HWR := Aside0.mk (show wrap64 (nx1 + 2) = nx1 + 2 by unfold wrap64; omega)
      rw [hw3] at hg3
      have fg4 : w2.frozen? ⟨g, 4, none⟩ = false := hM2.q.fz 4
      have hgx2 : g ≠ x.t := hgx.symm
      have HA := Aside0.mk hA
      clear c43 f43
      have HG3 := Aside0.mk hg3
      unfold ptr at qc
      clear hM2 hM3 hg3 hob hob2 hmem hs3 hap hm2 hb2 hmiss hli hsame h2x hA HM hnx1 hw3
      have HX := Aside0.mk hx
      clear hx
      go_wp2_with fail
      refine start_ (n := 10) (S := (fun w' => w'.cell? ⟨x.t, 0, none⟩ = some (.int .i64 x.k) ∧ w'.cell? ⟨g, 4, none⟩ = some (.int .i64 nx1))) (ds := [9]) #[false, false, false, false, false, false, false, false, false, false] (by kernel_rfl) rfl rfl ⟨k0d, c4d⟩ (fun hHeld => ?_)
      refine take_ (i := 0) (N := some 24) (v := ?_) (a' := ?_) #[true, false, false, false, false, false, false, false, false, false] rfl rfl (by kernel_rfl) (fun _ _ _ h => h) (Or.inl ⟨by rfl, ?_⟩) hHeld ?_ ?_
      rotate_left
      · rintro w' ⟨s0, s1⟩
        go_simp
        with_reducible rfl
      rotate_left
      · simp only [Act.put, List.setIfInBounds_toArray, List.set_cons_zero, List.set_cons_succ, i64_w, i32_w]
        rfl
      refine take_ (i := 1) (N := some 25) (v := ?_) (a' := ?_) #[true, true, false, false, false, false, false, false, false, false] rfl rfl (by kernel_rfl) (fun _ _ _ h => h) (Or.inl ⟨by rfl, ?_⟩) hHeld ?_ ?_
      rotate_left
      · rintro w' ⟨s0, s1⟩
        go_simp
        with_reducible rfl
      rotate_left
      · simp only [Act.put, List.setIfInBounds_toArray, List.set_cons_zero, List.set_cons_succ, i64_w, i32_w]
        rfl
      refine take_ (i := 2) (N := some 26) (v := ?_) (a' := ?_) #[true, true, true, false, false, false, false, false, false, false] rfl rfl (by kernel_rfl) (fun _ _ _ h => h) (Or.inl ⟨by rfl, ?_⟩) hHeld ?_ ?_
      rotate_left
      · rintro w' ⟨s0, s1⟩
        go_simp
        with_reducible rfl
      rotate_left
      · simp only [Act.put, List.setIfInBounds_toArray, List.set_cons_zero, List.set_cons_succ, i64_w, i32_w]
        rfl
      refine take_ (i := 3) (N := some 27) (v := ?_) (a' := ?_) #[true, true, true, true, false, false, false, false, false, false] rfl rfl (by kernel_rfl) (fun _ _ _ h => h) (Or.inl ⟨by rfl, ?_⟩) hHeld ?_ ?_
      rotate_left
      · rintro w' ⟨s0, s1⟩
        go_simp
        with_reducible rfl
      rotate_left
      · simp only [Act.put, List.setIfInBounds_toArray, List.set_cons_zero, List.set_cons_succ, i64_w, i32_w]
        rfl
      refine take_ (i := 4) (N := some 28) (v := ?_) (a' := ?_) #[true, true, true, true, true, false, false, false, false, false] rfl rfl (by kernel_rfl) (fun _ _ _ h => h) (Or.inl ⟨by rfl, ?_⟩) hHeld ?_ ?_
      rotate_left
      · rintro w' ⟨s0, s1⟩
        go_simp
        with_reducible rfl
      rotate_left
      · simp only [Act.put, List.setIfInBounds_toArray, List.set_cons_zero, List.set_cons_succ, i64_w, i32_w]
        rfl
      refine take_ (i := 5) (N := some 29) (v := ?_) (a' := ?_) #[true, true, true, true, true, true, false, false, false, false] rfl rfl (by kernel_rfl) (fun _ _ _ h => h) (Or.inl ⟨by rfl, ?_⟩) hHeld ?_ ?_
      rotate_left
      · rintro w' ⟨s0, s1⟩
        go_simp
        with_reducible rfl
      rotate_left
      · simp only [Act.put, List.setIfInBounds_toArray, List.set_cons_zero, List.set_cons_succ, i64_w, i32_w]
        rfl
      refine take_ (i := 6) (N := some 30) (v := ?_) (a' := ?_) #[true, true, true, true, true, true, true, false, false, false] rfl rfl (by kernel_rfl) (fun _ _ _ h => h) (Or.inl ⟨by rfl, ?_⟩) hHeld ?_ ?_
      rotate_left
      · rintro w' ⟨s0, s1⟩
        go_simp
        with_reducible rfl
      rotate_left
      · simp only [Act.put, List.setIfInBounds_toArray, List.set_cons_zero, List.set_cons_succ, i64_w, i32_w]
        rfl
      refine take_ (i := 7) (N := some 31) (v := ?_) (a' := ?_) #[true, true, true, true, true, true, true, true, false, false] rfl rfl (by kernel_rfl) (fun _ _ _ h => h) (Or.inl ⟨by rfl, ?_⟩) hHeld ?_ ?_
      rotate_left
      · rintro w' ⟨s0, s1⟩
        go_simp
        with_reducible rfl
      rotate_left
      · simp only [Act.put, List.setIfInBounds_toArray, List.set_cons_zero, List.set_cons_succ, i64_w, i32_w]
        rfl
      refine take_ (i := 8) (N := some 32) (v := ?_) (a' := ?_) #[true, true, true, true, true, true, true, true, true, false] rfl rfl (by kernel_rfl) (fun _ _ _ h => h) (Or.inl ⟨by rfl, ?_⟩) hHeld ?_ ?_
      rotate_left
      · rintro w' ⟨s0, s1⟩
        go_simp
        with_reducible rfl
      rotate_left
      · simp only [Act.put, List.setIfInBounds_toArray, List.set_cons_zero, List.set_cons_succ, i64_w, i32_w]
        rfl
      refine last_ (i := 9) (N := none) #[true, true, true, true, true, true, true, true, true, true] rfl rfl (by kernel_rfl) (by decide) (fun K hK => ?_)
      refine skip_ (w1 := ?_) (by rfl) rfl ?_ ?_
      rotate_left
      · go_simp
        rfl
      refine hK.out _ _ ?_
      clear hK K
      refine done_ (by kernel_rfl) ?_

      go_wp2_with fail
      go_roundw
      case rel => exact ⟨i + 1, by go_num, ⟨hlt⟩, ⟨by rw [HWR.out, ← HA.out]; exact HG3.out⟩⟩
      case measure => simp [intOf]; omega
    · have hltb : decide ((i : Int) < (S.length : Int)) = false := decide_eq_false (by omega)
      have hi' := hi.out
      obtain rfl : i = S.length := by omega
      rw [List.take_length] at HM
      obtain ⟨S1, hS1⟩ : ∃ l, l = stA h.nx S.length S := ⟨_, rfl⟩
      obtain ⟨tt, htt⟩ : ∃ l, l = stT h.nx S := ⟨_, rfl⟩
      have hl1 : S1.length = S.length := by rw [hS1, stA_len]
      rw [← hS1, ← htt] at HM
      have HF1 := Aside0.mk (show ∀ x ∈ S1, x.o.fs.length ≤ 1000 from fun x hx => by
        rw [hS1] at hx
        obtain ⟨j, hj, rfl⟩ := List.mem_iff_getElem.1 hx
        have hjS : j < S.length := by rw [stA_len] at hj; exact hj
        rw [stA_get h.nx S.length S hjS, if_pos hjS]
        exact HFL.out S[j] (List.getElem_mem hjS))
      have HS1 := Aside0.mk hS1
      have HTT := Aside0.mk htt
      have HL1 := Aside0.mk hl1
      have HB0 := Aside0.mk (show MvS w wr g V R rc SA sc S (stB tt 0 0 S1) { h with nx := h.nx + 2 * (S.length : Int) } w.heap.size tt by rw [stB_zero]; exact HM.out)
      clear hS1 htt HM hi' hi
      go_wp2_with fail
      go_loopw [56] (fun v wq => ∃ i : Nat, v = .int .i64 i ∧ Aside0 (i ≤ S.length) ∧ Aside0 (MvS w wq g V R rc SA sc S (stB tt i 0 S1) { h with nx := h.nx + 2 * (S.length : Int) } w.heap.size tt)) (fun v wq => S.length - (intOf v).toNat)
      case atStart => exact ⟨0, rfl, ⟨Nat.zero_le _⟩, HB0⟩
      case round =>
        clear HB0
        obtain ⟨i, rfl, hi, HM⟩ := hrel
        by_cases hlt : i < S.length
        · have hltb : decide ((i : Int) < (S.length : Int)) = true := decide_eq_true (by omega)
          have hil : (i : Int) < (S.length : Int) := by omega
          have hi1 : i < S1.length := by omega
          have hli : i < (stB tt i 0 S1).length := by rw [stB_len]; exact hi1
          have hsame : (stB tt i 0 S1)[i] = S1[i] := by rw [stB_get tt i 0 S1 hi1, if_neg (Nat.lt_irrefl i), if_pos rfl, turn_zero]
          obtain ⟨q, hA, qc⟩ := HM.out.ps.at hli
          rw [hsame] at qc
          rw [hA]
          have hob := HM.out.q.ob _ (List.getElem_mem hli)
          rw [hsame] at hob
          have o2 : wr.cell? ⟨S1[i].t, 2, none⟩ = some (.slice S1[i].A S1[i].o.fs.length S1[i].c) := (blk_cell hob 2).trans rfl
          have hfl := HF1.out _ (List.getElem_mem hi1)
          have HI1 := Aside0.mk hi1
          have HAa := Aside0.mk hA
          obtain ⟨x, hx⟩ : ∃ x, x = S1[i] := ⟨_, rfl⟩
          rw [← hx] at qc o2 hfl
          have HX := Aside0.mk hx
          unfold ptr at qc
          clear hx hA hob hsame hli
          go_wp2_with fail
          go_loopw [65] (fun v wq => ∃ j : Nat, v = .int .i64 j ∧ Aside0 (j ≤ x.o.fs.length) ∧ Aside0 (MvS w wq g V R rc SA sc S (stB tt i j S1) { h with nx := h.nx + 2 * (S.length : Int) } w.heap.size tt)) (fun v wq => x.o.fs.length - (intOf v).toNat)
          case atStart => exact ⟨0, rfl, ⟨Nat.zero_le _⟩, HM⟩
          case round =>
            clear HM
            obtain ⟨j, rfl, hj, HM⟩ := hrel
            by_cases hjt : j < x.o.fs.length
            · have hjb : decide ((j : Int) < (x.o.fs.length : Int)) = true := decide_eq_true (by omega)
              have hjl : (j : Int) < (x.o.fs.length : Int) := by omega
              have hi1 := HI1.out
              have hxe := HX.out
              have hli : i < (stB tt i j S1).length := by rw [stB_len]; exact hi1
              have hget : (stB tt i j S1)[i] = x.turn tt j := by rw [stB_get tt i j S1 hi1, if_neg (Nat.lt_irrefl i), if_pos rfl, hxe]
              have hmem := List.getElem_mem hli
              rw [hget] at hmem
              have hlen : (x.turn tt j).o.fs.length = x.o.fs.length := part_len tt j _
              obtain ⟨hxA, hrow⟩ := HM.out.q.row _ hmem (by rw [← List.length_pos_iff, hlen]; omega)
              have hxA : x.A = some ⟨x.fb, 0, none⟩ := hxA
              have fc := hrow.cell (i := j) (by rw [hlen]; exact hjt)
              rw [show (x.turn tt j).o.fs.getD j 0 = x.o.fs.getD j 0 from part_get tt x.o hjt] at fc
              have fc : wr.cell? ⟨x.fb, j, none⟩ = some (.int .i64 (x.o.fs.getD j 0)) := fc
              have ff : wr.frozen? ⟨x.fb, j, none⟩ = false := hrow.fz j
              have o2 : wr.cell? ⟨x.t, 2, none⟩ = some (.slice x.A x.o.fs.length x.c) := (blk_cell (HM.out.q.ob _ hmem) 2).trans (by show some (Value.slice x.A (x.o.part tt j).fs.length x.c) = _; rw [part_len])
              rw [hxA] at o2
              have hml := map_lookup (P := Try.prog) Try.underlying85 Try.underlying28 (Try.zeroValue28 wr) HM.out.mp (x.o.fs.getD j 0) true
              rw [toV_get] at hml
              have hts := turn_step hi1 HM.out (by rw [← hxe]; exact hjt)
              rw [← hxe] at hts
              have hsm := fun hg => turn_same (x := x) (tt := tt) hjt hg
              obtain ⟨f, hf⟩ : ∃ f, f = x.o.fs.getD j 0 := ⟨_, rfl⟩
              rw [← hf] at fc hml hts hsm
              have HSM := Aside0.mk hsm
              have HXA := Aside0.mk hxA
              rw [hxA]
              clear hsm hf hxA hrow hmem hget hli hxe hlen
              cases hg : toGet tt f with
              | none =>
                rw [hg] at hml
                have HSN := Aside0.mk (show stB tt i (j + 1) S1 = stB tt i j S1 by
                  rw [← stB_set tt HI1.out, ← HX.out, HSM.out hg]
                  have h1 : (stB tt i j S1)[i]'(by rw [stB_len]; exact HI1.out) = x.turn tt j := by rw [stB_get tt i j S1 HI1.out, if_neg (Nat.lt_irrefl i), if_pos rfl, HX.out]
                  rw [← h1]
                  exact List.set_getElem_self _)
                clear hg hts HSM
                go_wp2_with fail
                go_roundw
                case rel => exact ⟨j + 1, by go_num, ⟨hjt⟩, ⟨by rw [HSN.out]; exact HM.out⟩⟩
                case measure => simp [intOf]; omega
              | some n =>
                rw [hg] at hml
                have hrn : ren tt f = n := by unfold ren; rw [hg]; rfl
                rw [hrn] at hts
                have HTS := Aside0.mk hts
                clear hg hts HSM hrn
                go_wp2_with fail
                go_roundw
                case rel => exact ⟨j + 1, by go_num, ⟨hjt⟩, HTS⟩
                case measure => simp [intOf]; omega
            · have hjb : decide ((j : Int) < (x.o.fs.length : Int)) = false := decide_eq_false (by omega)
              have hjl : ¬ (j : Int) < (x.o.fs.length : Int) := by omega
              have hj' := hj.out
              obtain rfl : j = x.o.fs.length := by omega
              have HNX2 := Aside0.mk (show stB tt i x.o.fs.length S1 = stB tt (i + 1) 0 S1 by rw [HX.out]; exact stB_next tt HI1.out)
              go_wp2_with fail
              go_roundw
              case rel => exact ⟨i + 1, by go_num, ⟨hlt⟩, ⟨by rw [← HNX2.out, ← HAa.out]; exact HM.out⟩⟩
              case measure => simp [intOf]; omega
        · have hltb : decide ((i : Int) < (S.length : Int)) = false := decide_eq_false (by omega)
          have hi' := hi.out
          obtain rfl : i = S.length := by omega
          obtain ⟨S2, hS2⟩ : ∃ l, l = stB tt S.length 0 S1 := ⟨_, rfl⟩
          rw [← hS2] at HM
          have HS2 := Aside0.mk hS2
          have hrl := HRL.out
          have c3 := HM.out.q.c3
          have HB0 := Aside0.mk (show MvS w wr g V R rc SA sc S S2 { h with nx := h.nx + 2 * (S.length : Int), roots := partL tt 0 h.roots } w.heap.size tt by rw [show partL tt 0 h.roots = h.roots from by unfold partL; simp]; exact HM.out)
          clear hS2 HM hi' hi
          go_wp2_with fail
          go_loopw [91] (fun v wq => ∃ i : Nat, v = .int .i64 i ∧ Aside0 (i ≤ h.roots.length) ∧ Aside0 (MvS w wq g V R rc SA sc S S2 { h with nx := h.nx + 2 * (S.length : Int), roots := partL tt i h.roots } w.heap.size tt)) (fun v wq => h.roots.length - (intOf v).toNat)
          case atStart => exact ⟨0, rfl, ⟨Nat.zero_le _⟩, HB0⟩
          case round =>
            clear HB0
            obtain ⟨i, rfl, hi, HM⟩ := hrel
            have hpl : (partL tt i h.roots).length = h.roots.length := partL_len tt i h.roots
            by_cases hlt : i < h.roots.length
            · have hltb : decide ((i : Int) < (h.roots.length : Int)) = true := decide_eq_true (by omega)
              have hil : (i : Int) < (h.roots.length : Int) := by omega
              obtain ⟨rb, hR, fc, ff0⟩ := HM.out.q.rootAt (i := i) (by show i < (partL tt i h.roots).length; omega)
              have ff := ff0 i
              replace fc : wr.cell? ⟨rb, i, none⟩ = some (.int .i64 ((partL tt i h.roots).getD i 0)) := fc
              rw [partL_get tt h.roots hlt] at fc
              have c3 : wr.cell? ⟨g, 3, none⟩ = some (.slice R (partL tt i h.roots).length rc) := HM.out.q.c3
              rw [hpl, hR] at c3
              have hml := map_lookup (P := Try.prog) Try.underlying85 Try.underlying28 (Try.zeroValue28 wr) HM.out.mp (h.roots.getD i 0) true
              rw [toV_get] at hml
              have HRE := Aside0.mk hR
              have hts := (show MvS w wr g V (some ⟨rb, 0, none⟩) rc SA sc S S2 _ w.heap.size tt from hR ▸ HM.out).root (i := i) (by show i < (partL tt i h.roots).length; omega) (ren tt (h.roots.getD i 0))
              have hps : (partL tt i h.roots).set i (ren tt (h.roots.getD i 0)) = partL tt (i + 1) h.roots := (partL_succ tt h.roots hlt).symm
              have hts : MvS w (wr.setCell ⟨rb, i, none⟩ (.int .i64 (ren tt (h.roots.getD i 0)))) g V (some ⟨rb, 0, none⟩) rc SA sc S S2 { h with nx := h.nx + 2 * (S.length : Int), roots := partL tt (i + 1) h.roots } w.heap.size tt := by
                rw [← hps]; exact hts
              have hsn : toGet tt (h.roots.getD i 0) = none → partL tt (i + 1) h.roots = partL tt i h.roots := fun hg => by
                rw [← hps]
                have e : ren tt (h.roots.getD i 0) = (partL tt i h.roots).getD i 0 := by
                  rw [partL_get tt h.roots hlt]
                  unfold ren
                  rw [hg]; rfl
                rw [e, set_getD _ (by omega)]
              obtain ⟨f, hf⟩ : ∃ f, f = h.roots.getD i 0 := ⟨_, rfl⟩
              rw [← hf] at fc hml hts hsn
              have HSN := Aside0.mk hsn
              rw [hR]
              clear hsn hps hf hR ff0 hpl
              cases hg : toGet tt f with
              | none =>
                rw [hg] at hml
                have HSE := Aside0.mk (HSN.out hg)
                clear hg hts HSN
                go_wp2_with fail
                go_roundw
                case rel => exact ⟨i + 1, by go_num, ⟨hlt⟩, ⟨by rw [HSE.out, ← HRE.out]; exact HM.out⟩⟩
                case measure => simp [intOf]; omega
              | some n =>
                rw [hg] at hml
                have hrn : ren tt f = n := by unfold ren; rw [hg]; rfl
                rw [hrn] at hts
                have HTS := Aside0.mk hts
                clear hg hts HSN hrn
                go_wp2_with fail
                go_roundw
                case rel => exact ⟨i + 1, by go_num, ⟨hlt⟩, ⟨HTS.out⟩⟩
                case measure => simp [intOf]; omega
            · have hltb : decide ((i : Int) < (h.roots.length : Int)) = false := decide_eq_false (by omega)
              have hil : ¬ (i : Int) < (h.roots.length : Int) := by omega
              have hi' := hi.out
              obtain rfl : i = h.roots.length := by omega
              have hpe : partL tt h.roots.length h.roots = h.roots.map (ren tt) := by unfold partL; simp
              rw [hpe] at HM
              have c2 := HM.out.q.c2
              have f2 := HM.out.q.fz 2
              have hfin := HM.out.turned (V' := .slice SA S.length sc) (h' := { h with nx := h.nx + 2 * (S.length : Int), roots := h.roots.map (ren tt) }) (Fr.set wr g 2 (.slice SA S.length sc)) (by rw [blk_put HM.out.q.hp 2 _ rfl]; rfl) rfl
              have HFIN := Aside0.mk hfin
              clear hfin hpe HM
              go_wp2_with fail
              go_returns
              refine ⟨rfl, ?_⟩
              rw [← HTT.out, ← HS1.out, ← HS2.out]
              exact HFIN.out
end
end Go.Proofs.Ytlghnldlkbgajaa.S
