
/- heap: the document's heap: collectAll. -/
import Derived.Test.YtlghnldlkbgajaaHRf9
namespace Go.Proofs.Ytlghnldlkbgajaa.S
open Go.RowKit Go.Proofs.YtlghnldlkbgajaaW.PrintWords Go.Proofs.YtlghnldlkbgajaaW.PrintLast Go.Proofs.YtlghnldlkbgajaaW.PrintMore
set_option linter.unusedVariables false
set_option linter.unusedSimpArgs false
/-- All that stay, under new words. -/
def movL (nx : Int) (S : List OW) : List OW := S.mapIdx fun j x => { x with k := nx + 2 * (j : Int), o := x.o.done (stT nx S) }
theorem movL_len (nx : Int) (S : List OW) : (movL nx S).length = S.length := by simp [movL]
theorem movL_get (nx : Int) (S : List OW) {j : Nat} (hj : j < S.length) : (movL nx S)[j]'(by simpa [movL] using hj) = { S[j] with k := nx + 2 * (j : Int), o := S[j].o.done (stT nx S) } := by simp [movL]
theorem movL_eq (nx : Int) (S : List OW) : stB (stT nx S) S.length 0 (stA nx S.length S) = movL nx S := by
  refine List.ext_getElem (by simp [stB, stA, movL]) fun j h1 h2 => ?_
  have hj : j < S.length := by simpa [movL] using h2
  have hjA : j < (stA nx S.length S).length := by rw [stA_len]; exact hj
  rw [stB_get _ S.length 0 _ hjA, if_pos hj, movL_get nx S hj, stA_get nx S.length S hj, if_pos hj]
  unfold OW.turn OW.aged PO.part PO.done
  simp
theorem movL_keys (nx : Int) (S : List OW) : (movL nx S).Pairwise fun x y => x.k ≠ y.k := by
  rw [List.pairwise_iff_getElem]
  intro i j hi hj hij
  rw [movL_len] at hi hj
  rw [movL_get nx S hi, movL_get nx S hj]
  show nx + 2 * (i : Int) ≠ nx + 2 * (j : Int)
  omega
theorem movL_low {nx : Int} (h0 : 0 < nx) (h2 : nx % 2 = 0) {S : List OW} {x : OW} (hx : x ∈ movL nx S) : 0 < x.k ∧ x.k < nx + 2 * (S.length : Int) ∧ x.k % 2 = 0 := by
  obtain ⟨j, hj, rfl⟩ := List.mem_iff_getElem.1 hx
  rw [movL_len] at hj
  rw [movL_get nx S hj]
  show 0 < nx + 2 * (j : Int) ∧ nx + 2 * (j : Int) < nx + 2 * (S.length : Int) ∧ (nx + 2 * (j : Int)) % 2 = 0
  omega
/-- The bounds of a document's heap. -/
structure SmR (L : List OW) (h : RS) : Prop where
  len : L.length ≤ 100000
  nx : 0 < h.nx ∧ h.nx % 2 = 0 ∧ h.nx ≤ 800000000000
  fine : ∀ x ∈ L, x.o.Fine
  roots : h.roots.length ≤ 1000000
  mm : 0 ≤ h.minor ∧ h.minor ≤ 900000000000 ∧ 0 ≤ h.major ∧ h.major ≤ 900000000000
def RS.moved (h : RS) (S : List OW) : RS := { h with nx := h.nx + 2 * (S.length : Int), roots := h.roots.map (ren (stT h.nx S)) }
section
variable {w : World} {g rc : Nat} {V : Value} {R : Option Addr} {L : List OW} {h : RS}
/-- What is left to be a heap behind moved. -/
theorem HR.moved {W0 w' : World} {S : List OW} {SA : Option Addr} {sc b : Nat} {m : List (Int × Int)} (M : MvS W0 w' g (.slice SA S.length sc) R rc SA sc S (movL h.nx S) (h.moved S) b m) (h0 : 0 < h.nx) (h2 : h.nx % 2 = 0) : HR w' g (.slice SA S.length sc) R rc (movL h.nx S) (h.moved S) :=
  ⟨M.q, by have := M.ps; rw [movL_len] at this; exact this, movL_keys _ _, fun x hx => movL_low h0 h2 hx⟩
theorem tsame_keys {S : List OW} (H : HR w g V R rc L h) (hs : ∀ x ∈ S, x ∈ L) (hn : S.Pairwise fun x y => x.t ≠ y.t) : S.Pairwise fun x y => x.k ≠ y.k :=
  hn.imp_of_mem fun {x y} hx hy hne e => hne (by rw [pw_eq OW.k H.keys (hs x hx) (hs y hy) e])
set_option maxRecDepth 100000 in
set_option maxHeartbeats 2000000 in
theorem collectAll_calls (H : HR w g V R rc L h) (hs : SmR L h) :
    Calls Try.prog 44 #[ptr g] w fun e w' => e = .returned (.tuple #[]) ∧ ∃ out SA sc, ReachOk L false h.roots out ∧ HR w' g (.slice SA out.length sc) R rc (movL h.nx out) ({ h with major := h.major + 1 }.moved out) ∧ StepR g V R L (.slice SA out.length sc) R (movL h.nx out) w w' := by
  have c6 := H.q.c6
  have f6 := H.q.fz 6
  have hf1 := Fr.set w g 6 (.int .i64 (h.major + 1))
  have hfq1 : FrP (FootQ g R L) w (w.setCell ⟨g, 6, none⟩ (.int .i64 (h.major + 1))) := (FrP.ofFr hf1).mono (fun k _ hk => .inl (by simpa using hk))
  have h1 := H.after (h' := { h with major := h.major + 1 }) (H.q.turned (V' := V) (h' := { h with major := h.major + 1 }) hf1 (by rw [blk_put H.q.hp 6 (.int .i64 (h.major + 1)) rfl]; rfl) rfl) hfq1 (by show h.nx ≤ h.nx; omega)
  obtain ⟨w1, hw1⟩ : ∃ w1, w1 = w.setCell ⟨g, 6, none⟩ (.int .i64 (h.major + 1)) := ⟨_, rfl⟩
  rw [← hw1] at h1 hfq1
  have hbB : Below w1.heap.size w1 (w1.alloc (.cells #[] 28)) := (Below.refl _ _).alloc (Nat.le_refl _) _
  have h2 := h1.new hbB
  have own0 : (w1.alloc (.cells #[] 28)).ownsRow 0 28 1 (.slice (some ⟨w1.heap.size, 0, none⟩) 0 0) 0 (([] : List Int).map (Value.int .i64)) := World.ownsRow_made w1 #[] 0 (Nat.zero_le _) (Nat.zero_le _) rfl
  have hrt := WsAt.src (WsAt.ofOwn h2.q.rt rfl)
  obtain ⟨R1, rc1, w3, hrun1, own1, hfa, hblk1⟩ := append_from own0 (A := R) (c := rc) (m := h.roots) hrt (by have := hs.roots; omega)
  rw [List.nil_append] at own1
  have hB1 : Below w1.heap.size (w1.alloc (.cells #[] 28)) w3 := hfa.below hbB.size (fun k hk => Nat.le_of_eq (by simpa using hk))
  have h3 := h1.new (hbB.trans hB1)
  have hws := WsAt.ofOwn own1 (by simp)
  have HS := Aside0.mk hs
  have H3 := Aside0.mk h3
  have HWS := Aside0.mk hws
  have HFQ := Aside0.mk hfq1
  have HB13 := Aside0.mk (hbB.trans hB1)
  have HSZ := Aside0.mk (show w.heap.size ≤ w1.heap.size from hfq1.size)
  simp only [Nat.zero_add] at hrun1 HWS
  have c3 : (w1.alloc (.cells #[] 28)).cell? ⟨g, 3, none⟩ = some (.slice R h.roots.length rc) := h2.q.c3
  have HWR := Aside0.mk (show wrap64 (h.major + 1) = h.major + 1 by have := hs.mm; unfold wrap64; omega)
  have HIN := Aside0.mk (fun k (hk : FootQ g R L k) => H.q.foot_lt hk)
  have hsz1 : w1.heap.size = w.heap.size := by rw [hw1]; simp
  rw [hsz1] at hrun1
  rw [hw1] at c3 hrun1
  unfold ptr
  have HW1 := Aside0.mk hw1
  clear H hs hsz1 hf1 hfq1 h1 hbB h2 own0 hrt own1 hfa hblk1 hB1 h3 hws hw1
  rw [← HWR.out] at c3 hrun1
  go_enter Try.func44, Try.ntmps44
  go_wp2_with (at_builtin; refine wpList_plain rfl fun K hK => wp_append_words _ _ 33 rfl _ _ _ _ rfl rfl hrun1 (hK _ _ ?_))
  refine (reach_calls H3.out HS.out.len HS.out.fine false HWS.out (by have := HS.out.roots; omega)).mono ?_
  rintro e w4 ⟨O, oc, out, rfl, hp4, hO, hrch, hb4⟩
  have h4 := H3.out.new hb4
  have hq4 := h4.q.sub hrch.sub hrch.nd
  have H4 := Aside0.mk (And.intro hp4 (And.intro hO (And.intro hrch (And.intro hb4 hq4))))
  have HMV := Aside0.mk (moved_calls hq4 hp4 (tsame_keys h4 hrch.sub hrch.nd) (Nat.le_trans (ts_le hrch.sub hrch.nd) HS.out.len) (by have := HS.out.nx; exact ⟨by show 0 ≤ h.nx; omega, by show h.nx ≤ _; omega⟩) (fun x hx => (HS.out.fine x (hrch.sub x hx)).fl) HS.out.roots)
  clear hp4 hO hrch hb4 h4 hq4
  unfold ptr at HMV
  go_wp2_with fail
  refine HMV.out.mono ?_
  rintro e w5 ⟨rfl, hm⟩
  have HM := Aside0.mk hm
  clear hm HMV
  go_wp2_with fail
  go_returns
  have hm := HM.out
  have hm : MvS w4 w5 g (.slice O out.length oc) R rc O oc out (movL h.nx out) ({ h with major := h.major + 1 }.moved out) w4.heap.size (stT h.nx out) := by
    rw [← movL_eq]; exact hm
  obtain ⟨hp4, hO, hrch, hb4, hq4⟩ := H4.out
  have hsub : ∀ k, FootQ g R out k → FootQ g R L k := fun k hk => hk.imp id (fun e => e.imp id (fun ⟨y, hy, h⟩ => ⟨y, hrch.sub y hy, h⟩))
  have hsz3 : w.heap.size ≤ w3.heap.size := Nat.le_trans HSZ.out HB13.out.size
  refine ⟨rfl, out, O, oc, hrch, HR.moved (h := { h with major := h.major + 1 }) hm HS.out.nx.1 HS.out.nx.2.1, ⟨?_, fun k hk => ?_⟩⟩
  · have f1 : FrP (FootR g V R L) w w1 := HFQ.out.mono (fun k _ hk => .inl hk)
    have f2 : FrP (FootR g V R L) w1 w3 := FrP.new HB13.out _
    have f3 : FrP (FootR g V R L) w3 w4 := FrP.new hb4 _
    have f4 : FrP (FootR g V R L) w4 w5 := hm.fr.mono (fun k _ hk => .inl (hsub k hk))
    exact ((f1.trans f2).trans f3).trans f4
  · rcases hk with hk | hk
    · exact .inl (.inl (hsub k (hm.ft k hk)))
    · refine .inr (Nat.le_trans hsz3 (hO k ?_))
      rcases hp4.2 with ⟨h1, -⟩ | ⟨qb, cap, cur2, h1, -, h3, -⟩
      · rw [h1] at hk; simp [Value.ownBlock] at hk
      · rw [h1] at hk
        obtain rfl : qb = k := by simpa [Value.ownBlock] using hk
        simp only [Value.slice.injEq] at h1
        exact h1.1
end
end Go.Proofs.Ytlghnldlkbgajaa.S
