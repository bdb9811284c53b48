
/- heap: move, where it is new. -/
import Derived.Test.YtlghnldlkbgajaaHMove
namespace Go.Proofs.Ytlghnldlkbgajaa.S
open Go.RowKit Go.Proofs.YtlghnldlkbgajaaW.PrintWords Go.Proofs.YtlghnldlkbgajaaW.PrintLast Go.Proofs.YtlghnldlkbgajaaW.PrintMore
set_option linter.unusedVariables false
set_option linter.unusedSimpArgs false

theorem lit_cell2 (w : World) (x : Int) : ∀ (j : Nat) (u : Value), [Value.int .i64 x][j]? = some u → (w.alloc (.cells #[.int .i64 x] 28)).cell? ((⟨w.heap.size, 0, none⟩ : Addr).add j) = some u := fun j u hj => by
  cases j with
  | zero =>
    rw [show (⟨w.heap.size, 0, none⟩ : Addr).add 0 = ⟨w.heap.size, 0, none⟩ from by simp [Addr.add]]
    exact (blk_cell (heap_alloc_new w _) 0).trans hj
  | succ j => simp at hj
def HH.next (h : HH) : HH := { h with nx := h.nx + 2 }
theorem HW.nexted {w : World} {g b B rc : Nat} {R : Option Addr} {L : List OW} {h : HH} (H : HW w g b B R rc L h) : HW (w.setCell ⟨g, 1, none⟩ (.int .i64 (h.nx + 2))) g b B R rc L h.next :=
  H.turned (Fr.set w g 1 _) (blk_put H.hp 1 _ rfl) rfl (by show h.nx ≤ h.nx + 2; omega)
set_option maxRecDepth 100000 in
set_option maxHeartbeats 1000000 in
theorem move_new {w0 w : World} {g b B : Nat} {R : Option Addr} {rc : Nat} {L : List OW} {h : HH} {mv tb : Nat} {all : Bool} {tt : List (Int × Int)} {q : List Int} (H : MS w0 w g b B R rc L h mv tb all tt q) {x : OW} (hx : x ∈ L) (hn : toGet tt x.k = none) (hnx : h.nx ≤ 1000000000000000) (hq : q.length ≤ 1000000000000) :
    Calls Try.prog 59 #[ptr mv, .int .i64 x.k] w fun e w' => e = .returned (.int .i64 h.nx) ∧ MS w0 w' g b B R rc L h.next mv tb all (tt ++ [(x.k, h.nx)]) (q ++ [x.k]) := by
  obtain ⟨i0, hi, hz0, hz1, hz2⟩ := info_parts word_info
  have HI := Aside0.mk (And.intro hi (And.intro hz0 (And.intro hz1 hz2)))
  clear hi hz0 hz1 hz2
  obtain ⟨Q, qc, hm, hqr⟩ := H.qs
  have m0 : w.cell? ⟨mv, 0, none⟩ = some (.pointer (some ⟨g, 0, none⟩)) := (blk_cell hm 0).trans rfl
  have m1 : w.cell? ⟨mv, 1, none⟩ = some (.map (some tb)) := (blk_cell hm 1).trans rfl
  have c0 := H.hw.c0
  have c1 := H.hw.c1
  have f1 := H.hw.fz 1
  have hl := H.hw.look hx
  have hlow := H.hw.low x hx
  have ht := map_lookup (P := Try.prog) Try.underlying85 Try.underlying28 (Try.zeroValue28 w) H.tm x.k true
  rw [toV_get, hn] at ht
  simp only [Option.map_none, Option.getD_none, Option.isSome_none, if_true] at ht
  have hmg : mv ≠ g := H.ne_mg
  have htg : tb ≠ g := H.ne_tg
  have hmt : mv ≠ tb := H.ne_mt
  -- the world behind the next word's store
  have hm1 : (w.setCell ⟨g, 1, none⟩ (.int .i64 (h.nx + 2))).heap[mv]? = _ := (Below.heap_setCell w ⟨g, 1, none⟩ _ mv hmg).trans hm
  obtain ⟨w2, hu, hm2, hb2⟩ := map_update (P := Try.prog) Try.underlying85 Try.underlying28 (H.tm.fr (Fr.set w g 1 (.int .i64 (h.nx + 2))) (by simpa using htg)) x.k (.int .i64 h.nx)
  have hm2v : w2.heap[mv]? = _ := (hb2.block mv hmt).trans hm1
  have n0 : (w.setCell ⟨g, 1, none⟩ (.int .i64 (h.nx + 2))).cell? ⟨mv, 1, none⟩ = some (.map (some tb)) := (blk_cell hm1 1).trans rfl
  have k2 : w2.cell? ⟨mv, 2, none⟩ = some (.slice Q q.length qc) := (blk_cell hm2v 2).trans rfl
  have fr2 : Fr [tb] (w.setCell ⟨g, 1, none⟩ (.int .i64 (h.nx + 2))) w2 := Fr.but1 hb2
  have hq2 : w2.ownsRow w0.heap.size 28 1 (.slice Q q.length qc) q.length (q.map (Value.int .i64)) := by
    refine own_fr (own_fr hqr (Fr.set w g 1 (.int .i64 (h.nx + 2))) ?_) fr2 ?_
    · intro k hk
      have := (hqr.lt k hk).1
      have := H.lt g (.inl rfl)
      simp; omega
    · intro k hk e
      have e : k = tb := by simpa using e
      subst e
      rcases hqr.2 with ⟨h1, -⟩ | ⟨qb, cap, cur, h1, h2, h3, h4⟩
      · rw [h1] at hk; cases hk
      · rw [h1] at hk
        obtain rfl : qb = k := by simpa [Value.ownBlock] using hk
        exact H.tm.norow _ _ _ h3
  have hsz : w0.heap.size ≤ w2.heap.size := by have := H.fr.size; have := fr2.size; simp [World.setCell] at this; omega
  have HQ := Aside0.mk hq2
  have HSZ := Aside0.mk hsz
  have HM2 := Aside0.mk hm2
  have HB2 := Aside0.mk fr2
  have HMV := Aside0.mk hm2v
  have HH0 := Aside0.mk H
  have HNX := Aside0.mk hnx
  have HQL := Aside0.mk hq
  have HNN := Aside0.mk hn
  unfold ptr at *
  have e1 : decide (x.k ≤ 0) = false := decide_eq_false (by omega)
  have e2 : (bits BinOp.and .i64 x.k 1 == 1) = false := by rw [bit1, hlow.2.2]; rfl
  have e3 : IntKind.i64.wrap (h.nx + 2) = h.nx + 2 := by rw [IntKind.wrap_i64]; omega
  clear hm hqr hx hlow hn hm1 hm2 hb2 hm2v fr2 hq2 hsz hmg htg hmt H hq hnx
  generalize hxk : x.k = xk at *
  generalize x.t = xt at *
  have HXK := Aside0.mk hxk
  clear hxk
  go_enter Try.func59, Try.ntmps59
  go_wp2_with (at_builtin; refine wpList_append_own _ rfl _ _ 33 rfl w0.heap.size 28 i0 (.int .i64 0) 1 8 Try.underlying33 HI.out.1 HI.out.2.1 HI.out.2.2.1 HI.out.2.2.2 rfl (by decide) (.slice Q q.length qc) q.length (q.map (Value.int .i64)) rfl (HQ.out.alloc _) ⟨w2.heap.size, 0, none⟩ 1 1 [.int .i64 xk] rfl ?qc1 ?qc2 ?qc3 ?qc4 ?qc5 ?qc6 ?_)
  case qc1 => rfl
  case qc2 => exact lit_cell2 _ _
  case qc3 => intro u hu; simp at hu; subst hu; rfl
  case qc4 => have := HQL.out; unfold maxLen; omega
  case qc5 => have := HQL.out; omega
  case qc6 => have := HSZ.out; simp; omega
  intro v' w3 hown hgrow hnil
  have hrow : ∀ k, (Value.slice Q q.length qc).ownBlock = some k → w0.heap.size ≤ k ∧ ∃ cur, w2.heap[k]? = some (.cells cur 28 (0, 0)) := fun k hk => by
    rcases HQ.out.2 with ⟨h1, -⟩ | ⟨qb, cap, cur, h1, h2, h3, h4⟩
    · rw [h1] at hk; cases hk
    · rw [h1] at hk
      obtain rfl : qb = k := by simpa [Value.ownBlock] using hk
      exact ⟨h2, cur, h3⟩
  have hb3 : Below w0.heap.size w2 w3 := ((Below.refl _ w2).alloc HSZ.out _).grown hgrow (by have := HSZ.out; simp; omega) (fun k hk => (hrow k hk).1)
  have keep : ∀ k o, w2.heap[k]? = some o → (∀ cur, o ≠ Obj.cells cur 28 (0, 0)) → w3.heap[k]? = some o := fun k o hk hno => by
    have hlt : k < w2.heap.size := (Array.getElem?_eq_some_iff.1 hk).1
    refine (hgrow.block k (by simp; omega) (fun e => ?_)).trans ((heap_alloc_old w2 _ hlt).trans hk)
    obtain ⟨-, cur, h1⟩ := hrow k e.symm
    rw [hk] at h1
    exact hno cur (Option.some.inj h1)
  have hmv3 := keep mv _ HMV.out (fun cur e => by simp at e)
  have htm3 : MapIs w3 tb (put (toV tt) xk (.int .i64 h.nx)) := by
    obtain ⟨es, cl, h1, h2, h3⟩ := HM2.out
    exact ⟨es, cl, keep tb _ h1 (fun cur e => by cases e), h2, h3⟩
  rcases hown.2 with ⟨-, h2⟩ | ⟨qb, cap, cur, h1, h2, h3, h4, h5, h6, h7⟩
  · omega
  · subst h1
    have k3 : w3.cell? ⟨mv, 2, none⟩ = some (.slice Q q.length qc) := (blk_cell hmv3 2).trans rfl
    have f3 : w3.frozen? ⟨mv, 2, none⟩ = false := blk_frozen hmv3 2
    have hqm : qb ≠ mv := fun e => by rw [e, hmv3] at h3; simp at h3
    have HOW := Aside0.mk hown
    have HB3 := Aside0.mk hb3
    have HV3 := Aside0.mk hmv3
    have HT3 := Aside0.mk htm3
    clear hown hgrow hnil hrow hb3 keep hmv3 htm3 h2 h3 h4 h5 h6 h7
    go_wp2_with fail
    go_returns
    have f4 := Fr.set w3 mv 2 (.slice (some ⟨qb, 0, none⟩) (q.length + 1) cap)
    have s1 : w0.heap.size ≤ (w.setCell ⟨g, 1, none⟩ (.int .i64 (h.nx + 2))).heap.size := by have := HH0.out.fr.size; simp [World.setCell]; omega
    have fr : FrP (fun k => k = tb ∨ k = mv ∨ w0.heap.size ≤ k) (w.setCell ⟨g, 1, none⟩ (.int .i64 (h.nx + 2))) (w3.setCell ⟨mv, 2, none⟩ (.slice (some ⟨qb, 0, none⟩) (q.length + 1) cap)) :=
      (((FrP.ofFr HB2.out).mono (fun k _ hk => .inl (by simpa using hk))).trans ((FrP.ofBelow HB3.out).mono (fun k _ hk => .inr (.inr hk)))).trans ((FrP.ofFr f4).mono (fun k _ hk => .inr (.inl (by simpa using hk))))
    refine ⟨rfl, HH0.out.hw.nexted.frp fr (fun k hk hm => ?_), ⟨some ⟨qb, 0, none⟩, cap, ?_, ?_⟩, ?_, HH0.out.ge, HH0.out.lt, ?_⟩
    · have h1 := HH0.out.foot hk
      have h2 := HH0.out.lt k hk
      rcases hm with hm | hm | hm
      · exact h1.2 hm
      · exact h1.1 hm
      · omega
    · have := blk_put HV3.out 2 (.slice (some ⟨qb, 0, none⟩) (q.length + 1) cap) rfl
      rw [List.length_append]
      exact this
    · rw [List.length_append, List.map_append]
      refine own_fr HOW.out f4 (fun k hk => ?_)
      obtain rfl : qb = k := by simpa [Value.ownBlock] using hk
      simpa using hqm
    · have e : put (toV tt) xk (.int .i64 h.nx) = toV (tt ++ [(xk, h.nx)]) := by
        unfold put
        rw [toV_get, HNN.out]
        simp [toV]
      rw [← e]
      exact HT3.out.fr f4 (by simpa using HH0.out.ne_mt.symm)
    · refine (HH0.out.fr.then (b := w) ((FrP.ofFr (Fr.set w g 1 (.int .i64 (h.nx + 2)))).mono (fun k _ hk => .inl (.inl (by simpa using hk))))).then (fr.mono (fun k _ hk => ?_))
      rcases hk with hk | hk | hk
      · exact .inl (.inr (.inr hk))
      · exact .inl (.inr (.inl hk))
      · exact .inr hk
end Go.Proofs.Ytlghnldlkbgajaa.S
