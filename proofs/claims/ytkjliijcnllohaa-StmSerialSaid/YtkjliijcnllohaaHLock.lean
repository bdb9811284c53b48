/- stm: Lock. -/
import Derived.Test.YtkjliijcnllohaaHSv
namespace Go.Proofs.Ytkjliijcnllohaa.S
open Go.RowKit Go.Proofs.YtkjliijcnllohaaW.PrintWords Go.Proofs.YtkjliijcnllohaaW.PrintLast Go.Proofs.YtkjliijcnllohaaW.PrintMore
set_option linter.unusedVariables false
set_option linter.unusedSimpArgs false
attribute [local go_sem ↓] Go.wp_at_zero Go.wp_at_succ

/-- A map has a name. -/
def has (m : List (ByteArray × Value)) (n : ByteArray) : Bool := (get? m n).isSome
theorem has_iff {m : List (ByteArray × Value)} {n : ByteArray} : has m n = true ↔ ∃ p ∈ m, p.1 = n := by
  unfold has
  cases h : get? m n with
  | none => exact ⟨fun e => (by cases e), fun ⟨p, hp, e⟩ => absurd e (get_none.1 h p hp)⟩
  | some v => exact ⟨fun _ => ⟨_, get_some_mem h, rfl⟩, fun _ => rfl⟩
theorem MapIs.open_ {w : World} {b : Nat} {m : List (ByteArray × Value)} (h : MapIs w b m) : ∃ es c, w.heap[b]? = some (.map es c) ∧ MapKept.Stamped es c ∧ (∀ e ∈ es.toList, ∃ p ∈ m, e.key = .string p.1 ∧ e.val = p.2) ∧ ∀ p ∈ m, ∃ e ∈ es.toList, e.key = .string p.1 ∧ e.val = p.2 := by
  obtain ⟨es, c, hb, hs, hp⟩ := h
  refine ⟨es, c, hb, hs, fun e he => ?_, fun p hpm => ?_⟩
  · have : (e.key, e.val) ∈ pairs es := List.mem_map.2 ⟨e, he, rfl⟩
    rw [hp] at this
    obtain ⟨p, hpm, hpe⟩ := List.mem_map.1 this
    simp only [Prod.mk.injEq] at hpe
    exact ⟨p, hpm, hpe.1.symm, hpe.2.symm⟩
  · have : (Value.string p.1, p.2) ∈ pairs es := by rw [hp]; exact List.mem_map.2 ⟨p, hpm, rfl⟩
    obtain ⟨e, he, hpe⟩ := List.mem_map.1 this
    simp only [Prod.mk.injEq] at hpe
    exact ⟨e, he, hpe.1, hpe.2⟩

/-- The keys of a map's entries. -/
def Ks (es : Array MapEntry) (n : ByteArray) : Prop := ∃ e ∈ es.toList, e.key = .string n
theorem ks_has {es : Array MapEntry} {m : List (ByteArray × Value)} (hes : ∀ e ∈ es.toList, ∃ p ∈ m, e.key = .string p.1 ∧ e.val = p.2) (n : ByteArray) (h : Ks es n) : (get? m n).isSome = true := by
  obtain ⟨e, he, hk⟩ := h
  obtain ⟨p, hp, hk2, -⟩ := hes e he
  rw [hk] at hk2
  have : n = p.1 := by simpa using hk2
  cases hg : get? m n with
  | some v => rfl
  | none => exact absurd this.symm (get_none.1 hg p hp)
/-- A loop over a transaction's map: where it stands. -/
structure Lp (w1 wr : World) (r b c : Nat) (es : Array MapEntry) (seen : Array Nat) (T : List Nat) (s bm : Nat) (clock : Int) (S S' : List Ent) : Prop where
  it : IterAt wr r b c seen
  mp : wr.heap[b]? = some (.map es c)
  fr : Fr (r :: T) w1 wr
  sp : SpAt wr s bm clock S'
  later : Later (Ks es) w1 S S'

theorem lp_start {w : World} {b c : Nat} {es : Array MapEntry} {T : List Nat} {s bm : Nat} {clock : Int} {S : List Ent} (hb : w.heap[b]? = some (.map es c)) (h : SpAt w s bm clock S) : Lp (w.alloc (.mapIter (some b) c #[] c)) (w.alloc (.mapIter (some b) c #[] c)) w.heap.size b c es #[] T s bm clock S S :=
  ⟨heap_alloc_new _ _, blk_alloc hb _, Fr.refl _ _, h.fr (Fr.alloc [] w _) (by simp) (by simp) (by simp), later_refl _ _ _⟩
/-- Behind the loop's step. -/
theorem Lp.next {w1 wr w2 : World} {r b c : Nat} {es : Array MapEntry} {seen : Array Nat} {T : List Nat} {s bm : Nat} {clock : Int} {S S' : List Ent} (h : Lp w1 wr r b c es seen T s bm clock S S') {e : MapEntry} (hit : IterAt w2 r b c (seen.push e.born)) (hb : But1 r wr w2) :
    Lp w1 w2 r b c es (seen.push e.born) T s bm clock S S' := by
  have hnr : ∀ (c : Array Value) ty fz, wr.heap[r]? ≠ some (.cells c ty fz) := fun c ty fz h' => by
    have := h.it; unfold IterAt at this; rw [this] at h'; cases h'
  have hf := Fr.but1 hb hnr
  have hnm : ∀ es c, wr.heap[r]? ≠ some (.map es c) := fun es c h' => by
    have := h.it; unfold IterAt at this; rw [this] at h'; cases h'
  refine ⟨hit, ?_, h.fr.trans (hf.mono (fun k _ hk => by simp at hk; simp [hk])), h.sp.fr hf ?_ ?_ ?_, h.later⟩
  · rw [hb.block b (fun e => hnm es c (by rw [← e]; exact h.mp))]; exact h.mp
  · simp only [List.mem_singleton]; exact fun e => hnr _ _ _ (by rw [← e]; exact h.sp.sp)
  · simp only [List.mem_singleton]; exact fun e => by
      obtain ⟨es', c', h', _⟩ := h.sp.mp
      exact hnm _ _ (by rw [← e]; exact h')
  · intro x hx; simp only [List.mem_singleton]; exact fun e => hnr _ _ _ (by rw [← e]; exact h.sp.slot x hx)
/-- Behind a step of the round that touches T alone, and not the map. -/
theorem Lp.step {w1 wr w2 : World} {r b c : Nat} {es : Array MapEntry} {seen : Array Nat} {T T' : List Nat} {s bm : Nat} {clock : Int} {S S' S'' : List Ent} (h : Lp w1 wr r b c es seen T s bm clock S S') (hf : Fr T' wr w2) (hr : r ∉ T') (hb : b ∉ T') (hT : ∀ i, i < w1.heap.size → i ∈ T' → i ∈ T) (hs : SpAt w2 s bm clock S'') (hl : Later (Ks es) w1 S S'') :
    Lp w1 w2 r b c es seen T s bm clock S S'' :=
  ⟨hf.get h.it hr, hf.get h.mp hb, h.fr.trans' hf (fun i hi hm => List.mem_cons_of_mem _ (hT i hi hm)), hs, hl⟩
theorem Lp.r_ne_g {w1 wr : World} {r b c : Nat} {es : Array MapEntry} {seen : Array Nat} {T : List Nat} {s bm : Nat} {clock : Int} {S S' : List Ent} (h : Lp w1 wr r b c es seen T s bm clock S S') {x : Ent} (hx : wr.heap[x.g]? = some x.obj) : r ≠ x.g ∧ b ≠ x.g := by
  constructor
  · intro e
    have := h.it; unfold IterAt at this; rw [e, hx] at this; cases this
  · intro e
    have := h.mp; rw [e, hx] at this; cases this
theorem Lp.r_ne_bm {w1 wr : World} {r b c : Nat} {es : Array MapEntry} {seen : Array Nat} {T : List Nat} {s bm : Nat} {clock : Int} {S S' : List Ent} (h : Lp w1 wr r b c es seen T s bm clock S S') : r ≠ bm := fun e => by
  obtain ⟨es', c', h', _⟩ := h.sp.mp
  have := h.it; unfold IterAt at this; rw [e, h'] at this; cases this

/-- A slot's lock is taken. -/
def Ent.lockTo (g t : Nat) (x : Ent) : Ent := if x.g = g then { x with lock := some t } else x
theorem Ent.lockTo_g (g t : Nat) (x : Ent) : (x.lockTo g t).g = x.g := by unfold Ent.lockTo; split <;> rfl
theorem Ent.lockTo_name (g t : Nat) (x : Ent) : (x.lockTo g t).name = x.name := by unfold Ent.lockTo; split <;> rfl
theorem Ent.lockTo_v (g t : Nat) (x : Ent) : (x.lockTo g t).v = x.v := by unfold Ent.lockTo; split <;> rfl
theorem Ent.lockTo_bs (g t : Nat) (x : Ent) : (x.lockTo g t).bs = x.bs := by unfold Ent.lockTo; split <;> rfl
theorem gs_lockTo (S : List Ent) (g t : Nat) : gs (S.map (Ent.lockTo g t)) = gs S := by
  unfold gs; rw [List.map_map]; exact List.map_congr_left fun x _ => Ent.lockTo_g g t x
theorem SpAt.setLock {w : World} {s bm t br bw : Nat} {clock time phase : Int} {S : List Ent} (h : SpAt w s bm clock S) (hT : TxAt w t s time phase br bw) {x : Ent} (hx : x ∈ S) :
    SpAt (w.setCell ⟨x.g, 3, none⟩ (ptr t)) s bm clock (S.map (Ent.lockTo x.g t)) ∧ Fr [x.g] w (w.setCell ⟨x.g, 3, none⟩ (ptr t)) := by
  have hf := Fr.set (h.slot x hx) (by decide) 3 (ptr t)
  refine ⟨⟨?_, ?_, ?_, ?_, ?_, ?_⟩, hf⟩
  · exact hf.get h.sp (by simp only [List.mem_singleton]; exact fun e => blk_ne h.sp (h.slot x hx) (by decide) e)
  · have := h.mp.fr hf (by simp only [List.mem_singleton]; exact fun e => h.g_ne hx e.symm)
    have e : (S.map (Ent.lockTo x.g t)).map Ent.pair = S.map Ent.pair := by
      rw [List.map_map]
      exact List.map_congr_left fun y _ => by simp only [Function.comp_apply, Ent.pair, Ent.lockTo_g, Ent.lockTo_name]
    rw [e]; exact this
  · intro y hy
    obtain ⟨z, hz, rfl⟩ := List.mem_map.1 hy
    rw [Ent.lockTo_g]
    by_cases e : z.g = x.g
    · obtain rfl := same_g h.apart hz hx e
      have := blk_set (h.slot z hz) 3 (ptr t)
      refine this.trans ?_
      unfold Ent.lockTo
      rw [if_pos rfl]; rfl
    · have := hf.get (h.slot z hz) (by simpa using e)
      rw [this]
      unfold Ent.lockTo
      rw [if_neg e]
  · rw [List.pairwise_map]
    exact h.apart.imp (fun h => by rw [Ent.lockTo_g, Ent.lockTo_g]; exact h)
  · intro y hy b hb
    obtain ⟨z, hz, rfl⟩ := List.mem_map.1 hy
    unfold Ent.lockTo at hb
    split at hb
    · obtain rfl := Option.some.inj hb
      exact hf.kinds _ _ 67 _ hT
    · obtain ⟨ca, hc⟩ := h.locks z hz b hb
      exact hf.kinds b ca 67 _ hc
  · intro y hy
    obtain ⟨z, hz, rfl⟩ := List.mem_map.1 hy
    rw [Ent.lockTo_v, Ent.lockTo_bs]
    exact (h.rows z hz).fr hf
theorem sv_lockTo {S : List Ent} (hn : S.Pairwise fun x y => x.name ≠ y.name) (hg : S.Pairwise fun x y => x.g ≠ y.g) {x : Ent} (hx : x ∈ S) (t : Nat) (n : ByteArray) :
    sv (S.map (Ent.lockTo x.g t)) n = if n = x.name then { sv S n with lock := some t } else sv S n := by
  unfold sv find
  rw [List.find?_map]
  have e0 : ((fun y => decide (y.name = n)) ∘ Ent.lockTo x.g t) = fun y => decide (y.name = n) := by
    funext y; simp only [Function.comp_apply, Ent.lockTo_name]
  rw [e0]
  cases h : S.find? (fun y => decide (y.name = n)) with
  | none =>
    have : n ≠ x.name := fun e => by
      have := find_mem hn hx
      unfold find at this
      rw [← e, h] at this; cases this
    simp [this]
  | some y =>
    have hy := List.mem_of_find?_eq_some h
    have hyn : y.name = n := by simpa using List.find?_some h
    simp only [Option.map_some, Option.getD_some]
    by_cases e : n = x.name
    · have : y = x := by
        have h1 := find_mem hn hy
        have h2 := find_mem hn hx
        rw [hyn, e] at h1
        rw [h1] at h2
        exact Option.some.inj h2
      subst this
      rw [if_pos e]
      unfold Ent.lockTo
      rw [if_pos rfl]; rfl
    · rw [if_neg e]
      unfold Ent.lockTo
      rw [if_neg (fun eg => e (by rw [← hyn, same_g hg hy hx eg]))]

structure LockRel (w1 wr : World) (r bw c : Nat) (es : Array MapEntry) (seen : Array Nat) (s bm : Nat) (clock : Int) (S S' : List Ent) : Prop where
  lp : Lp w1 wr r bw c es seen [bm] s bm clock S S'
  same : ∀ n, sv S' n = sv S n
  free : ∀ e ∈ es.toList, e.born ∈ seen → ∀ n, e.key = .string n → (sv S n).lock = none
structure LockRel2 (w1 wr : World) (r bw c : Nat) (es : Array MapEntry) (seen : Array Nat) (s bm t : Nat) (clock : Int) (m : List (ByteArray × Value)) (S S' : List Ent) : Prop where
  lp : Lp w1 wr r bw c es seen (bm :: gs S) s bm clock S S'
  done : ∀ e ∈ es.toList, e.born ∈ seen → ∀ n, e.key = .string n → sv S' n = { sv S n with lock := some t }
  some_ : ∀ n, sv S' n = sv S n ∨ sv S' n = { sv S n with lock := some t }
  else_ : ∀ n, has m n = false → sv S' n = sv S n

set_option maxRecDepth 100000 in
theorem lock_state {w : World} {t s br bw : Nat} {time phase : Int} (hT : TxAt w t s time phase br bw) (hp : phase ≠ 0) :
    Calls Try.prog 11 #[ptr t] w fun e w' => e = .returned (.int .i64 3) ∧ w' = w := by
  have HT := Aside0.mk hT
  have HP := Aside0.mk hp
  clear hT hp
  unfold ptr
  go_enter Try.func11, Try.ntmps11
  go_wp2_with fail
  refine (in_calls HT.out 0).mono ?_
  rintro e w1 ⟨rfl, rfl⟩
  rw [if_neg HP.out]
  go_wp2_with fail
  go_returns
  exact ⟨rfl, rfl⟩

set_option maxRecDepth 100000 in
set_option maxHeartbeats 4000000 in
theorem lock_calls {w : World} {t s bm br bw : Nat} {clock time : Int} {S : List Ent} {m : List (ByteArray × Value)} (h : SpAt w s bm clock S) (hT : TxAt w t s time 0 br bw) (hm : MapIs w bw m) (hbw : bw ≠ bm) :
    Calls Try.prog 11 #[ptr t] w fun e w' => ∃ S', Later (fun n => has m n = true) w S S' ∧ Fr (bm :: t :: gs S) w w' ∧
      (((∀ n, has m n = true → (sv S n).lock = none) ∧ e = .returned (.int .i64 0) ∧ SpAt w' s bm clock S' ∧ TxAt w' t s time 1 br bw ∧ ∀ n, sv S' n = if has m n = true then { sv S n with lock := some t } else sv S n) ∨
       ((∃ n, has m n = true ∧ (sv S n).lock ≠ none) ∧ e = .returned (.int .i64 180) ∧ SpAt w' s bm clock S' ∧ TxAt w' t s time 4 br bw ∧ ∀ n, sv S' n = (sv S n).unlock t)) := by
  obtain ⟨es, c, hb, hst, hes, hse⟩ := hm.open_
  have H := Aside0.mk h
  have HT := Aside0.mk hT
  have HM := Aside0.mk hm
  have HB := Aside0.mk hb
  have HST := Aside0.mk hst
  have HES := Aside0.mk hes
  have HSE := Aside0.mk hse
  have HBW := Aside0.mk hbw
  have HTM := Aside0.mk (hT.ne_map h.mp)
  clear h hT hm hb hst hes hse hbw
  unfold ptr
  go_enter Try.func11, Try.ntmps11
  go_wp2_with fail
  refine (in_calls HT.out 0).mono ?_
  rintro e w1 ⟨rfl, rfl⟩
  have c4 := HT.out.c4
  have hrg := map_range (P := Try.prog) Try.underlying47 HB.out
  go_wp2_with fail
  clear c4 hrg
  go_loopw [4] (fun v4 wr => ∃ seen S', Aside0 (LockRel (w1.alloc (.mapIter (some bw) c #[] c)) wr w1.heap.size bw c es seen s bm clock S S')) (fun v4 wr => left es (seenAt wr w1.heap.size))
  case atStart => exact ⟨#[], S, ⟨⟨lp_start HB.out H.out, fun _ => rfl, fun e he hm => by simp at hm⟩⟩⟩
  case round =>
    obtain ⟨seen, S', hr⟩ := hrel
    have htx : TxAt wr t s time 0 br bw := hr.out.lp.fr.get (blk_alloc HT.out _) (by
      have := HT.out.lt
      simp only [List.mem_cons, List.not_mem_nil, or_false, not_or]
      exact ⟨by omega, HTM.out⟩)
    rcases next_at (P := Try.prog) hr.out.lp.it hr.out.lp.mp HST.out 0 with ⟨hall, hrun⟩ | ⟨e, he, hnew, w2, hrun, hit2, hbut⟩
    · have hnx : ∀ ty, (Instr.next (.pointer (some ⟨w1.heap.size, 0, none⟩)) false ty).run Try.prog wr = .ok (.tuple #[.bool false]) wr := fun _ => hrun
      have HA := Aside0.mk hall
      have HX := Aside0.mk htx
      have c4 := htx.c4
      have hrg := map_range (P := Try.prog) Try.underlying47 hr.out.lp.mp
      clear hall hrun htx
      go_wp2_with fail
      clear c4 hrg hnx
      have HL1 := Aside0.mk (show ∀ n, has m n = true → (sv S n).lock = none from fun n hn => by
        obtain ⟨p, hp, rfl⟩ := has_iff.1 hn
        obtain ⟨e, he, hek, -⟩ := HSE.out p hp
        exact hr.out.free e he (HA.out e he) _ hek)
      have HTM2 := Aside0.mk (HX.out.ne_map hr.out.lp.sp.mp)
      have hlt0 : Aside0 (t < wr.heap.size) := ⟨HX.out.lt⟩
      obtain ⟨w0, rfl⟩ : ∃ w0, w0 = wr := ⟨_, rfl⟩
      go_loopw [5] (fun v5 wq => ∃ seen2 S2, Aside0 (LockRel2 (w0.alloc (.mapIter (some bw) c #[] c)) wq w0.heap.size bw c es seen2 s bm t clock m S' S2)) (fun v5 wq => left es (seenAt wq w0.heap.size))
      case atStart => exact ⟨#[], S', ⟨⟨lp_start hr.out.lp.mp hr.out.lp.sp, fun e he hm => by simp at hm, fun _ => .inl rfl, fun _ _ => rfl⟩⟩⟩
      case round =>
        obtain ⟨seen2, S2, hr2⟩ := hrel
        have htx1 : TxAt wr t s time 0 br bw := hr2.out.lp.fr.get (blk_alloc HX.out _) (by
          have := hlt0.out
          simp only [List.mem_cons, not_or]
          exact ⟨by omega, HTM.out, fun hm => by
            obtain ⟨x, hx, e⟩ := List.mem_map.1 hm
            exact blk_ne (hr.out.lp.sp.slot x hx) HX.out (by decide) e⟩)
        rcases next_at (P := Try.prog) hr2.out.lp.it hr2.out.lp.mp HST.out 0 with ⟨hall2, hrun⟩ | ⟨e, he, hnew, w2, hrun, hit2, hbut⟩
        · have hnx : ∀ ty, (Instr.next (.pointer (some ⟨w0.heap.size, 0, none⟩)) false ty).run Try.prog wr = .ok (.tuple #[.bool false]) wr := fun _ => hrun
          have HA2 := Aside0.mk hall2
          have HX1 := Aside0.mk htx1
          have f2 := htx1.fz 2
          have c2 := htx1.c2
          clear hall2 hrun htx1
          go_wp2
          go_returns
          have hset := Fr.set HX1.out (by decide) 2 (.int .i64 1)
          have hL0 : Later (Ks es) w1 S S' := hr.out.lp.later.size (by simp)
          have hsz0 : w1.heap.size ≤ w0.heap.size := by have := hr.out.lp.fr.size; simp at this; omega
          have hL2 : Later (Ks es) w1 S S2 := later_trans hL0 hr2.out.lp.later (by simp; omega)
          refine ⟨S2, hL2.mono (ks_has HES.out), ?_, .inl ⟨HL1.out, rfl, ?_, blk_set HX1.out 2 _, fun n => ?_⟩⟩
          · refine (((Fr.alloc (bm :: t :: gs S) w1 (.mapIter (some bw) c #[] c)).trans' hr.out.lp.fr (fun i hi hm => ?_)).trans' (Fr.alloc [] w0 (.mapIter (some bw) c #[] c)) (fun i _ hm => by cases hm)).trans' (hr2.out.lp.fr) (fun i hi hm => ?_) |>.trans' hset (fun i _ hm => by simp at hm; simp [hm])
            · rcases List.mem_cons.1 hm with rfl | hm
              · omega
              · rcases List.mem_cons.1 hm with rfl | hm
                · simp
                · cases hm
            · rcases List.mem_cons.1 hm with rfl | hm
              · omega
              · rcases List.mem_cons.1 hm with rfl | hm
                · simp
                · exact List.mem_cons_of_mem _ (List.mem_cons_of_mem _ (hL0.g i hi hm))
          · refine hr2.out.lp.sp.fr hset ?_ ?_ ?_
            · simp only [List.mem_singleton]; exact fun e => blk_ne HX1.out hr2.out.lp.sp.sp (by decide) e.symm
            · simp only [List.mem_singleton]; exact fun e => HX1.out.ne_map hr2.out.lp.sp.mp e.symm
            · intro x hx
              simp only [List.mem_singleton]; exact fun e => blk_ne (hr2.out.lp.sp.slot x hx) HX1.out (by decide) e
          · cases hh : has m n with
            | true =>
              rw [if_pos rfl]
              obtain ⟨p, hp, rfl⟩ := has_iff.1 hh
              obtain ⟨e, he, hek, -⟩ := HSE.out p hp
              rw [hr2.out.done e he (HA2.out e he) _ hek, hr.out.same]
            | false =>
              rw [if_neg (by simp), hr2.out.else_ n hh, hr.out.same]
        · obtain ⟨p, hp, hek, hev⟩ := HES.out e he
          have htx2 : TxAt w2 t s time 0 br bw := by
            unfold TxAt
            rw [hbut.block _ (by have := hlt0.out; omega)]; exact htx1
          have hlp2 := hr2.out.lp.next (e := e) hit2 hbut
          have hen := entry_at (P := Try.prog) hit2 hlp2.mp HST.out he
          rw [hek] at hen hrun
          have t0 := htx2.c0
          have HR := Aside0.mk hr2.out
          have HLP := Aside0.mk hlp2
          have HTX := Aside0.mk htx2
          have HE := Aside0.mk (And.intro he (And.intro hnew (And.intro hek hp)))
          clear hr2 hlp2 htx2 htx1 he hnew hek hev hp hbut hit2
          go_wp2_with fail
          refine (at_sv (X := Ks es) HLP.out.sp p.1 ⟨_, HE.out.1, HE.out.2.2.1⟩).mono ?_
          rintro e3 w3 ⟨S3, x, hx, hxn, hxs, rfl, hs3, hsv3, hl3, hf3⟩
          have hb3 := hs3.slot x hx
          have f3 := Ent.fz hb3 3
          have d3 := Ent.c3 hb3
          have htx3 := HTX.out.fr hf3 (by simp only [List.mem_singleton]; exact HTM.out)
          have hlp3 := HLP.out.step hf3 (by simp only [List.mem_singleton]; exact HLP.out.r_ne_bm) (by simpa using HBW.out) (fun i _ hm => by simp at hm; simp [hm]) hs3 (later_trans HLP.out.later hl3 HLP.out.fr.size)
          obtain ⟨hs4, hf4⟩ := hs3.setLock htx3 hx
          have hne4 := hlp3.r_ne_g hb3
          have HLP4 := Aside0.mk (hlp3.step hf4 (by simpa using hne4.1) (by simpa using hne4.2) (fun i hi hm => by
            obtain rfl := List.mem_singleton.1 hm
            exact List.mem_cons_of_mem _ (hlp3.later.g _ hi (mem_gs hx))) hs4 (hlp3.later.map (fun x => Ent.lockTo_g _ _ x) (fun x => Ent.lockTo_name _ _ x)))
          have HSV4 := Aside0.mk (show ∀ n, sv (S3.map (Ent.lockTo x.g t)) n = if n = p.1 then { sv S2 n with lock := some t } else sv S2 n from fun n => by
            rw [sv_lockTo hs3.names hs3.apart hx, hxn, hsv3])
          have HB3 := Aside0.mk hb3
          clear hx hxn hxs hs3 hsv3 hl3 hf3 t0 hen hlp3 hs4 hf4 hne4 htx3 hb3
          unfold ptr
          go_wp2_with fail
          go_roundw
          case rel =>
            have hup : ∀ n, { sv S2 n with lock := some t } = { sv S' n with lock := some t } := fun n => by
              rcases HR.out.some_ n with h | h <;> rw [h]
            refine ⟨seen2.push e.born, S3.map (Ent.lockTo x.g t), ⟨⟨HLP4.out, fun e' he' hm n hn => ?_, fun n => ?_, fun n hn => ?_⟩⟩⟩
            · rw [HSV4.out]
              by_cases hnp : n = p.1
              · rw [if_pos hnp]; exact hup n
              · rw [if_neg hnp]
                rcases Array.mem_push.1 hm with hm | hm
                · exact HR.out.done e' he' hm n hn
                · exfalso
                  have hn' := ((MapKept.stamped_iff es c).1 HST.out).2.1
                  have h1 := find_born e' es.toList hn' he'
                  have h2 := find_born e es.toList hn' HE.out.1
                  rw [hm] at h1
                  rw [h1] at h2
                  cases h2
                  rw [HE.out.2.2.1] at hn
                  simp only [Value.string.injEq] at hn
                  exact hnp hn.symm
            · rw [HSV4.out]
              by_cases hnp : n = p.1
              · rw [if_pos hnp]; exact .inr (hup n)
              · rw [if_neg hnp]; exact HR.out.some_ n
            · rw [HSV4.out, if_neg (fun hnp => by
                rw [hnp] at hn
                rw [has_iff.2 ⟨p, HE.out.2.2.2, rfl⟩] at hn
                cases hn)]
              exact HR.out.else_ n hn
          case measure =>
            have h5 := seenAt_of HLP4.out.it
            unfold ptr at h5
            rw [h5, seenAt_of HR.out.lp.it]
            exact left_less _ _ _ HE.out.1 HE.out.2.1
    · obtain ⟨p, hp, hek, hev⟩ := HES.out e he
      have htx2 : TxAt w2 t s time 0 br bw := by
        unfold TxAt
        rw [hbut.block _ (by have := HT.out.lt; omega)]; exact htx
      have hlp2 := hr.out.lp.next (e := e) hit2 hbut
      have hen := entry_at (P := Try.prog) hit2 hlp2.mp HST.out he
      rw [hek] at hen hrun
      have t0 := htx2.c0
      have HR := Aside0.mk hr.out
      have HLP := Aside0.mk hlp2
      have HTX := Aside0.mk htx2
      have HE := Aside0.mk (And.intro he (And.intro hnew (And.intro hek hp)))
      clear hr hlp2 htx2 htx he hnew hek hev hp hbut hit2
      go_wp2_with fail
      refine (at_sv (X := Ks es) HLP.out.sp p.1 ⟨_, HE.out.1, HE.out.2.2.1⟩).mono ?_
      rintro e3 w3 ⟨S3, x, hx, hxn, hxs, rfl, hs3, hsv3, hl3, hf3⟩
      have d3 := Ent.c3 (hs3.slot x hx)
      have hlk : x.lock = (sv S p.1).lock := by rw [← HR.out.same]; exact congrArg Sv.lock hxs
      have HTX3 := Aside0.mk (HTX.out.fr hf3 (by simp only [List.mem_singleton]; exact HTM.out))
      have HLP3 := Aside0.mk (HLP.out.step hf3 (by simp only [List.mem_singleton]; exact HLP.out.r_ne_bm) (by simpa using HBW.out) (fun i _ hm => hm) hs3 (later_trans HLP.out.later hl3 HLP.out.fr.size))
      have HS3 := Aside0.mk (show ∀ n, sv S3 n = sv S n from fun n => (hsv3 n).trans (HR.out.same n))
      have HF3 := Aside0.mk hf3
      clear hx hxn hxs hs3 hsv3 hl3 hf3 t0 hen hrun
      unfold ptr
      cases hxl : x.lock with
      | none =>
        rw [hxl] at d3 hlk
        unfold lockV at d3
        have HLK := Aside0.mk hlk
        clear hlk hxl
        go_wp2_with fail
        go_roundw
        case rel =>
          refine ⟨seen.push e.born, S3, ⟨⟨HLP3.out, HS3.out, fun e' he' hm n hn => ?_⟩⟩⟩
          rcases Array.mem_push.1 hm with hm | hm
          · exact HR.out.free e' he' hm n hn
          · have hn' := ((MapKept.stamped_iff es c).1 HST.out).2.1
            have h1 := find_born e' es.toList hn' he'
            have h2 := find_born e es.toList hn' HE.out.1
            rw [hm] at h1
            rw [h1] at h2
            cases h2
            rw [HE.out.2.2.1] at hn
            simp only [Value.string.injEq] at hn
            rw [← hn]; exact HLK.out.symm
        case measure =>
          rw [seenAt_of HLP3.out.it, seenAt_of HR.out.lp.it]
          exact left_less _ _ _ HE.out.1 HE.out.2.1
      | some b =>
        rw [hxl] at d3 hlk
        unfold lockV ptr at d3
        have HLK := Aside0.mk hlk
        clear hlk hxl
        go_wp2_with fail
        refine (clash_calls HLP3.out.sp HTX3.out).mono ?_
        rintro e4 w4 ⟨rfl, h1, h2, h3⟩
        have H4 := Aside0.mk (And.intro h1 (And.intro h2 h3))
        clear h1 h2 h3 d3
        go_wp2
        go_returns
        have hLat : Later (Ks es) w1 S S3 := HLP3.out.later.size (by simp)
        refine ⟨S3.map (Ent.unlock t), (hLat.map (Ent.unlock_g t) (Ent.unlock_name t)).mono (ks_has HES.out), ?_, .inr ⟨⟨p.1, has_iff.2 ⟨p, HE.out.2.2.2, rfl⟩, by rw [← HLK.out]; simp⟩, rfl, H4.out.1, H4.out.2.1, fun n => by rw [sv_unlock, HS3.out]⟩⟩
        refine ((Fr.alloc (bm :: t :: gs S) w1 (.mapIter (some bw) c #[] c)).trans' HLP3.out.fr (fun i hi hm => ?_)).trans' H4.out.2.2 (fun i hi hm => ?_)
        · rcases List.mem_cons.1 hm with rfl | hm
          · omega
          · rcases List.mem_cons.1 hm with rfl | hm
            · simp
            · cases hm
        · rcases List.mem_cons.1 hm with rfl | hm
          · simp
          · exact List.mem_cons_of_mem _ (List.mem_cons_of_mem _ (hLat.g i hi hm))
end Go.Proofs.Ytkjliijcnllohaa.S
