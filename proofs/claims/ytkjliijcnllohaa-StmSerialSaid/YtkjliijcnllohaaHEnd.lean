/- stm: end, clash. -/
import Derived.Test.YtkjliijcnllohaaHStm
import Derived.LaidEqlPtr
import Derived.LoopTactic
namespace Go.Proofs.Ytkjliijcnllohaa.S
open Go.RowKit Go.Proofs.YtkjliijcnllohaaW.PrintWords Go.Proofs.YtkjliijcnllohaaW.PrintLast Go.Proofs.YtkjliijcnllohaaW.PrintMore
set_option linter.unusedVariables false
set_option linter.unusedSimpArgs false

theorem ptr_inj {a b : Nat} (h : ptr a = ptr b) : a = b := by
  unfold ptr at h
  simp only [Value.pointer.injEq, Option.some.injEq, Addr.mk.injEq, and_true] at h
  exact h
theorem tx_size : (Try.prog.info? 67).map (fun x => x.size) = some 5 := by kernel_rfl
theorem eql_lock {w : World} {l : Option Nat} {t : Nat} {ct : Array Value} (ht : w.heap[t]? = some (.cells ct 67 (0, 0))) (hl : ∀ b, l = some b → ∃ ca, w.heap[b]? = some (.cells ca 67 (0, 0))) :
    (binOp .eql 30 (lockV l) (.pointer (some ⟨t, 0, none⟩))).run Try.prog w = .ok (.bool (decide (l = some t))) w := by
  obtain ⟨j, hj, hjs⟩ := Option.map_eq_some_iff.1 tx_size
  cases l with
  | none =>
    have h : ∀ d : Nat, (Op.equalIn (d + 1) 30 (.pointer none) (.pointer (some ⟨t, 0, none⟩))).run Try.prog w = .ok false w := fun d => by
      simp [Op.equalIn, run_underlying Try.underlying30, sizeOf, typeInfo, hj]
    simp only [lockV, binOp]
    simp [Op.equal, Op.maxDepth, h 9999]
  | some b =>
    by_cases hb : b = t
    · subst hb
      rw [decide_eq_true rfl]
      exact run_eql_ptr_same w _ Try.underlying30 hj
    · obtain ⟨ca, hc⟩ := hl b rfl
      rw [decide_eq_false (by simpa using hb)]
      exact run_eql_ptr_other w Try.underlying30 hj (by rw [hjs]; decide) (fun e => hb (congrArg Addr.block e)) hc ht

theorem guard_lock (l : Option Nat) (a : Option Addr) (x y : Operand) (w : World) : (eqGuard .eql 30 x y (lockV l) (.pointer a)).run Try.prog w = .ok () w := by
  cases l <;> rfl
/-- A slot that a transaction lets go. -/
def Ent.unlock (t : Nat) (x : Ent) : Ent := if x.lock = some t then { x with lock := none } else x
theorem Ent.unlock_g (t : Nat) (x : Ent) : (x.unlock t).g = x.g := by unfold Ent.unlock; split <;> rfl
theorem Ent.unlock_v (t : Nat) (x : Ent) : (x.unlock t).v = x.v := by unfold Ent.unlock; split <;> rfl
theorem Ent.unlock_bs (t : Nat) (x : Ent) : (x.unlock t).bs = x.bs := by unfold Ent.unlock; split <;> rfl
theorem Ent.unlock_name (t : Nat) (x : Ent) : (x.unlock t).name = x.name := by unfold Ent.unlock; split <;> rfl
theorem Ent.unlock_twice (t : Nat) (x : Ent) : (x.unlock t).unlock t = x.unlock t := by
  unfold Ent.unlock
  by_cases h : x.lock = some t
  · simp [h]
  · simp [h]
def gs (S : List Ent) : List Nat := S.map (·.g)
theorem mem_gs {S : List Ent} {x : Ent} (h : x ∈ S) : x.g ∈ gs S := List.mem_map.2 ⟨x, h, rfl⟩

theorem SpAt.open_map {w : World} {s bm : Nat} {clock : Int} {S : List Ent} (h : SpAt w s bm clock S) : ∃ es c, w.heap[bm]? = some (.map es c) ∧ MapKept.Stamped es c ∧ (∀ e ∈ es.toList, ∃ x ∈ S, e.key = .string x.name ∧ e.val = ptr x.g) ∧ ∀ x ∈ S, ∃ e ∈ es.toList, e.key = .string x.name ∧ e.val = ptr x.g := by
  obtain ⟨es, c, hb, hs, hp⟩ := h.mp
  refine ⟨es, c, hb, hs, fun e he => ?_, fun x hx => ?_⟩
  · have : (e.key, e.val) ∈ pairs es := List.mem_map.2 ⟨e, he, rfl⟩
    rw [hp] at this
    obtain ⟨p, hpm, hpe⟩ := List.mem_map.1 this
    obtain ⟨x, hx, rfl⟩ := List.mem_map.1 hpm
    simp only [Ent.pair, Prod.mk.injEq] at hpe
    exact ⟨x, hx, hpe.1.symm, hpe.2.symm⟩
  · have : (Value.string x.name, ptr x.g) ∈ pairs es := by
      rw [hp]; exact List.mem_map.2 ⟨x.pair, List.mem_map.2 ⟨x, hx, rfl⟩, rfl⟩
    obtain ⟨e, he, hpe⟩ := List.mem_map.1 this
    simp only [Prod.mk.injEq] at hpe
    exact ⟨e, he, hpe.1, hpe.2⟩
theorem same_g {S : List Ent} (ha : S.Pairwise fun x y => x.g ≠ y.g) {x y : Ent} (hx : x ∈ S) (hy : y ∈ S) (h : x.g = y.g) : x = y := by
  induction S with
  | nil => cases hx
  | cons a S ih =>
    rw [List.pairwise_cons] at ha
    rcases List.mem_cons.1 hx with ex | hx' <;> rcases List.mem_cons.1 hy with ey | hy'
    · rw [ex, ey]
    · exact absurd (by rw [← ex]; exact h) (ha.1 _ hy')
    · exact absurd (by rw [← ey]; exact h.symm) (ha.1 _ hx')
    · exact ih ha.2 hx' hy'

/-- What the loop has done. -/
structure EndRel (w1 wr : World) (r t bm : Nat) (S : List Ent) (es : Array MapEntry) (c : Nat) (seen : Array Nat) : Prop where
  it : IterAt wr r bm c seen
  fr : Fr (r :: gs S) w1 wr
  some_ : ∀ x ∈ S, wr.heap[x.g]? = some x.obj ∨ wr.heap[x.g]? = some (x.unlock t).obj
  done : ∀ e ∈ es.toList, e.born ∈ seen → ∀ x ∈ S, e.val = ptr x.g → wr.heap[x.g]? = some (x.unlock t).obj

theorem Fr.trans' {T T' : List Nat} {a b c : World} (h : Fr T a b) (k : Fr T' b c) (hT : ∀ i, i < a.heap.size → i ∈ T' → i ∈ T) : Fr T a c :=
  ⟨k.os.trans h.os, k.tape.trans h.tape, k.output.trans h.output, Nat.le_trans h.size k.size, fun i hi hn => (k.block i (Nat.lt_of_lt_of_le hi h.size) (fun hm => hn (hT i hi hm))).trans (h.block i hi hn), fun i c fz hi => k.rows i c fz (h.rows i c fz hi), fun i c ty fz hi => by
    obtain ⟨c', h'⟩ := h.kinds i c ty fz hi
    exact k.kinds i c' ty fz h'⟩
theorem unlock_pairs (t : Nat) (S : List Ent) : (S.map (Ent.unlock t)).map Ent.pair = S.map Ent.pair := by
  rw [List.map_map]
  refine List.map_congr_left fun x _ => ?_
  simp only [Function.comp_apply, Ent.pair, Ent.unlock_g, Ent.unlock_name]
theorem unlock_lock {t : Nat} {x : Ent} {b : Nat} (h : (x.unlock t).lock = some b) : x.lock = some b := by
  unfold Ent.unlock at h
  split at h
  · cases h
  · exact h
theorem end_space {w wr : World} {o : Obj} {s bm t c : Nat} {clock : Int} {S : List Ent} {es : Array MapEntry} {seen : Array Nat} (H : SpAt w s bm clock S) (hr : EndRel (w.alloc o) wr w.heap.size t bm S es c seen)
    (hall : ∀ e ∈ es.toList, e.born ∈ seen) (hse : ∀ x ∈ S, ∃ e ∈ es.toList, e.key = .string x.name ∧ e.val = ptr x.g) : SpAt wr s bm clock (S.map (Ent.unlock t)) := by
  have hm : ∀ k, k < w.heap.size → (∀ x ∈ S, x.g ≠ k) → k ∉ w.heap.size :: gs S := fun k hk hx => by
    simp only [List.mem_cons, not_or]
    exact ⟨by omega, fun h => by obtain ⟨x, hxS, e⟩ := List.mem_map.1 h; exact hx x hxS e⟩
  refine ⟨?_, ?_, ?_, ?_, ?_, ?_⟩
  · exact hr.fr.get (blk_alloc H.sp _) (hm s H.lt fun x hx e => blk_ne (H.slot x hx) H.sp (by decide) e)
  · rw [unlock_pairs]
    exact (H.mp.fr (Fr.alloc [] w o) (by simp)).fr hr.fr (hm bm H.mp.lt fun x hx e => H.g_ne hx e)
  · intro y hy
    obtain ⟨x, hx, rfl⟩ := List.mem_map.1 hy
    obtain ⟨e, he, -, hev⟩ := hse x hx
    rw [Ent.unlock_g]
    exact hr.done e he (hall e he) x hx hev
  · rw [List.pairwise_map]
    exact H.apart.imp (fun h => by rw [Ent.unlock_g, Ent.unlock_g]; exact h)
  · intro y hy b hb
    obtain ⟨x, hx, rfl⟩ := List.mem_map.1 hy
    obtain ⟨ca, hc⟩ := H.locks x hx b (unlock_lock hb)
    exact hr.fr.kinds b ca 67 _ (blk_alloc hc _)
  · intro y hy
    obtain ⟨x, hx, rfl⟩ := List.mem_map.1 hy
    rw [Ent.unlock_v, Ent.unlock_bs]
    exact ((H.rows x hx).fr (Fr.alloc [] w o)).fr hr.fr
theorem end_step {w1 wr w2 w3 : World} {r t bm c : Nat} {S : List Ent} {es : Array MapEntry} {seen : Array Nat} {e : MapEntry} {x : Ent} (hr : EndRel w1 wr r t bm S es c seen) (ha : S.Pairwise fun x y => x.g ≠ y.g) (hst : MapKept.Stamped es c) (he : e ∈ es.toList)
    (hbut : But1 r wr w2) (hit2 : IterAt w2 r bm c (seen.push e.born)) (hx : x ∈ S) (hev : e.val = ptr x.g) (hxr : ∀ x ∈ S, x.g ≠ r) (h3 : w3.heap[x.g]? = some (x.unlock t).obj) (hoth : ∀ k, k ≠ x.g → w3.heap[k]? = w2.heap[k]?) (hfr : Fr [x.g] w2 w3) :
    EndRel w1 w3 r t bm S es c (seen.push e.born) := by
  have hnr : ∀ (c : Array Value) ty fz, wr.heap[r]? ≠ some (.cells c ty fz) := fun c ty fz h => by
    have := hr.it
    unfold IterAt at this
    rw [this] at h; cases h
  refine ⟨?_, ?_, ?_, ?_⟩
  · unfold IterAt
    rw [hoth r (fun e => hxr x hx e.symm)]
    exact hit2
  · refine (hr.fr.trans' (Fr.but1 hbut hnr) (fun i _ hm => by simp at hm; simp [hm])).trans' hfr (fun i _ hm => ?_)
    obtain rfl := List.mem_singleton.1 hm
    exact List.mem_cons_of_mem _ (mem_gs hx)
  · intro y hy
    by_cases hg : y.g = x.g
    · obtain rfl := same_g ha hy hx hg
      exact .inr h3
    · rw [hoth _ hg, hbut.block _ (hxr y hy)]
      exact hr.some_ y hy
  · intro e' he' hm y hy hye
    by_cases hg : y.g = x.g
    · obtain rfl := same_g ha hy hx hg
      exact h3
    · rw [hoth _ hg, hbut.block _ (hxr y hy)]
      refine hr.done e' he' ?_ y hy hye
      rcases Array.mem_push.1 hm with hm | hm
      · exact hm
      · have hn := ((MapKept.stamped_iff es c).1 hst).2.1
        have h1 := find_born e' es.toList hn he'
        have h2 := find_born e es.toList hn he
        rw [hm] at h1
        rw [h1] at h2
        cases h2
        rw [hye] at hev
        exact absurd (ptr_inj hev) hg

set_option maxRecDepth 100000 in
set_option maxHeartbeats 2000000 in
theorem end_calls {w : World} {s bm t br bw : Nat} {clock time phase : Int} {S : List Ent} (h : SpAt w s bm clock S) (hT : TxAt w t s time phase br bw) (ph : Int) :
    Calls Try.prog 39 #[ptr t, .int .i64 ph] w fun e w' => e = .returned (.tuple #[]) ∧ SpAt w' s bm clock (S.map (Ent.unlock t)) ∧ TxAt w' t s time ph br bw ∧ Fr (t :: gs S) w w' := by
  obtain ⟨es, c, hb, hst, hes, hse⟩ := h.open_map
  have c0 := h.c0
  have t0 := hT.c0
  have hrg := map_range (P := Try.prog) Try.underlying61 hb
  have H := Aside0.mk h
  have HT := Aside0.mk hT
  have HES := Aside0.mk hes
  have HSE := Aside0.mk hse
  have HB := Aside0.mk hb
  have HST := Aside0.mk hst
  clear h hT hes hse hb hst
  unfold ptr
  go_enter Try.func39, Try.ntmps39
  go_wp2
  clear c0 t0 hrg
  go_loopw [5] (fun v5 wr => ∃ seen, Aside0 (EndRel (w.alloc (.mapIter (some bm) c #[] c)) wr w.heap.size t bm S es c seen)) (fun v5 wr => left es (seenAt wr w.heap.size))
  case atStart => 
    refine ⟨#[], ⟨⟨heap_alloc_new _ _, Fr.refl _ _, fun x hx => .inl (blk_alloc (H.out.slot x hx) _), fun e he hm => by simp at hm⟩⟩⟩
  case round =>
    obtain ⟨seen, hr⟩ := hrel
    have hbm : wr.heap[bm]? = some (.map es c) := hr.out.fr.get (blk_alloc HB.out _) (by
      have h1 := blk_lt HB.out
      simp only [List.mem_cons, not_or]
      exact ⟨by omega, fun hm => by obtain ⟨x, hx, e⟩ := List.mem_map.1 hm; exact H.out.g_ne hx e⟩)
    have hti : t ∉ w.heap.size :: gs S := by
      have h1 := HT.out.lt
      simp only [List.mem_cons, not_or]
      exact ⟨by omega, fun hm => by
        obtain ⟨x, hx, e⟩ := List.mem_map.1 hm
        exact blk_ne (H.out.slot x hx) HT.out (by decide) e⟩
    have htx : TxAt wr t s time phase br bw := hr.out.fr.get (blk_alloc HT.out _) hti
    rcases next_at (P := Try.prog) hr.out.it hbm HST.out 0 with ⟨hall, hrun⟩ | ⟨e, he, hnew, w2, hrun, hit2, hbut⟩
    · have hnx : ∀ ty, (Instr.next (.pointer (some ⟨w.heap.size, 0, none⟩)) false ty).run Try.prog wr = .ok (.tuple #[.bool false]) wr := fun _ => hrun
      have HA := Aside0.mk hall
      have HX := Aside0.mk htx
      have f2 := htx.fz 2
      have c2 := htx.c2
      clear hall hrun hbm htx
      go_wp2
      go_returns
      have hsp := end_space H.out hr.out HA.out HSE.out
      have hset := Fr.set HX.out (by decide) 2 (.int .i64 ph)
      refine ⟨rfl, hsp.fr hset ?_ ?_ ?_, blk_set HX.out 2 _, ?_⟩
      · simp only [List.mem_singleton]; exact fun e => blk_ne HX.out hsp.sp (by decide) e.symm
      · simp only [List.mem_singleton]; exact fun e => by
          obtain ⟨es', c', hb', _⟩ := hsp.mp
          have := HX.out
          unfold TxAt at this
          rw [← e, hb'] at this; cases this
      · intro x hx
        simp only [List.mem_singleton]; exact fun e => blk_ne (hsp.slot x hx) HX.out (by decide) e
      · refine ((Fr.alloc _ w _).trans' hr.out.fr (fun i hi hm => ?_)).trans' hset (fun i _ hm => by simp at hm; simp [hm])
        rcases List.mem_cons.1 hm with rfl | hm
        · omega
        · exact List.mem_cons_of_mem _ hm
    · obtain ⟨x, hx, hek, hev⟩ := HES.out e he
      have hxr : ∀ x ∈ S, x.g ≠ w.heap.size := fun x hx => by have := H.out.g_lt hx; omega
      have hbm2 : w2.heap[bm]? = some (.map es c) := by
        rw [hbut.block _ (by have := H.out.mp.lt; omega)]; exact hbm
      have htx2 : TxAt w2 t s time phase br bw := by
        unfold TxAt
        rw [hbut.block _ (by have := HT.out.lt; omega)]; exact htx
      have hen := entry_at (P := Try.prog) hit2 hbm2 HST.out he
      rw [hek, hev] at hen
      rw [hek, hev] at hrun
      unfold ptr at hen hrun
      obtain ⟨y, hy, hyo⟩ : ∃ y : Ent, (y = x ∨ y = x.unlock t) ∧ wr.heap[x.g]? = some y.obj := by
        rcases hr.out.some_ x hx with h | h
        · exact ⟨x, .inl rfl, h⟩
        · exact ⟨_, .inr rfl, h⟩
      have hyg : y.g = x.g := by rcases hy with rfl | rfl <;> first | rfl | exact Ent.unlock_g _ _
      have hyo2 : w2.heap[y.g]? = some y.obj := by rw [hyg, hbut.block _ (hxr x hx)]; exact hyo
      have hlk : ∀ b, y.lock = some b → ∃ ca, w2.heap[b]? = some (.cells ca 67 (0, 0)) := fun b hb => by
        have hxl : x.lock = some b := by rcases hy with rfl | rfl <;> first | exact hb | exact unlock_lock hb
        obtain ⟨ca, hc⟩ := H.out.locks x hx b hxl
        obtain ⟨cb, hcb⟩ := hr.out.fr.kinds b ca 67 _ (blk_alloc hc _)
        exact ⟨cb, by rw [hbut.block _ (by have := blk_lt hc; omega)]; exact hcb⟩
      have heq := eql_lock htx2 hlk
      have hgd := fun x z => guard_lock y.lock (some ⟨t, 0, none⟩) x z w2
      have c3 := Ent.c3 hyo2
      have f3 := Ent.fz hyo2 3
      rw [hyg] at c3 f3
      have HR := Aside0.mk hr
      have HY := Aside0.mk (And.intro hy hyg)
      have HYO := Aside0.mk hyo2
      have HBUT := Aside0.mk hbut
      have HIT := Aside0.mk hit2
      have HE := Aside0.mk he
      have HNEW := Aside0.mk hnew
      have HX := Aside0.mk hx
      have HEV := Aside0.mk (And.intro hev hxr)
      clear hr hy hyg hyo hyo2 hbut hit2 he hnew hx hek hev hxr hbm hbm2 htx htx2 hti hlk
      by_cases hl : y.lock = some t
      · rw [decide_eq_true hl] at heq
        have HL := Aside0.mk hl
        clear hl
        have HR3 : Aside0 (EndRel (w.alloc (.mapIter (some bm) c #[] c)) (w2.setCell ⟨x.g, 3, none⟩ (.pointer none)) w.heap.size t bm S es c (seen.push e.born)) := ⟨by
          refine end_step HR.out.out H.out.apart HST.out HE.out HBUT.out HIT.out HX.out HEV.out.1 HEV.out.2 ?_ (fun k hk => Below.heap_setCell _ _ _ _ hk) (Fr.set (by rw [← HY.out.2]; exact HYO.out) (by decide) 3 _)
          have := blk_set HYO.out 3 (.pointer none)
          rw [HY.out.2] at this
          refine this.trans ?_
          have hxo : x.unlock t = { y with lock := none } := by
            rcases HY.out.1 with hyx | hyx
            · rw [hyx]; unfold Ent.unlock; rw [if_pos (by rw [← hyx]; exact HL.out)]
            · exfalso
              have h1 := HL.out
              rw [hyx] at h1
              have h2 := unlock_lock h1
              unfold Ent.unlock at h1
              rw [if_pos h2] at h1
              cases h1
          rw [hxo]
          rfl⟩
        go_wp2
        go_roundw
        case rel => exact ⟨seen.push e.born, HR3⟩
        case measure =>
          rw [seenAt_of HR3.out.it, seenAt_of HR.out.out.it]
          exact left_less _ _ _ HE.out HNEW.out
      · rw [decide_eq_false hl] at heq
        have HL := Aside0.mk hl
        clear hl
        have HR3 : Aside0 (EndRel (w.alloc (.mapIter (some bm) c #[] c)) w2 w.heap.size t bm S es c (seen.push e.born)) := ⟨by
          refine end_step HR.out.out H.out.apart HST.out HE.out HBUT.out HIT.out HX.out HEV.out.1 HEV.out.2 ?_ (fun k hk => rfl) (Fr.refl _ _)
          have := HYO.out
          rw [HY.out.2] at this
          refine this.trans ?_
          have hxo : x.unlock t = y := by
            rcases HY.out.1 with hyx | hyx
            · rw [hyx]; unfold Ent.unlock; rw [if_neg (by rw [← hyx]; exact HL.out)]
            · exact hyx.symm
          rw [hxo]⟩
        go_wp2
        go_roundw
        case rel => exact ⟨seen.push e.born, HR3⟩
        case measure =>
          rw [seenAt_of HR3.out.it, seenAt_of HR.out.out.it]
          exact left_less _ _ _ HE.out HNEW.out

/-- clash. -/
theorem clash_calls {w : World} {s bm t br bw : Nat} {clock time phase : Int} {S : List Ent} (h : SpAt w s bm clock S) (hT : TxAt w t s time phase br bw) :
    Calls Try.prog 38 #[ptr t] w fun e w' => e = .returned (.int .i64 180) ∧ SpAt w' s bm clock (S.map (Ent.unlock t)) ∧ TxAt w' t s time 4 br bw ∧ Fr (t :: gs S) w w' := by
  have H := Aside0.mk h
  have HT := Aside0.mk hT
  clear h hT
  unfold ptr
  go_enter Try.func38, Try.ntmps38
  go_wp2_with fail
  refine (end_calls H.out HT.out 4).mono ?_
  rintro e w1 ⟨rfl, h1, h2, h3⟩
  have H1 := Aside0.mk (And.intro h1 (And.intro h2 h3))
  clear h1 h2 h3
  go_wp2
  go_returns
  exact ⟨rfl, H1.out⟩
end Go.Proofs.Ytkjliijcnllohaa.S
