
/- datum.Read of a text that is one datum. -/
import Derived.Test.YtjphkokfleoinaaDoorHRIts
import Derived.Stop.Joined
namespace Go.Proofs.YtjphkokfleoinaaDoor.D
open Go Go.Proofs Go.RowKit Go.Proofs.YtjphkokfleoinaaDoorW.PrintWords Go.Proofs.YtjphkokfleoinaaDoorW.PrintLast Go.Proofs.YtjphkokfleoinaaDoorW.PrintMore
set_option linter.unusedVariables false
set_option linter.unusedSimpArgs false

theorem caught_idle (p q : Addr) (w : World) :
    CallsD Tryd.prog 14 #[.pointer (some p), .pointer (some q)] .returning w fun e u' w' => e = .returned (.tuple #[]) ∧ u' = .returning ∧ w' = w := by
  refine callsD_of_wpS Tryd.func14 rfl fun c₀ cs hu => ?_
  apply wpS_seq
  apply wpS_region
  simp [wpOpsS, go_sem, recoverD, hu, Tryd.ntmps14, Exit.thenS]
  apply wpS_seq
  apply wpS_region
  simp [wpOpsS, go_sem, recoverD, hu, Tryd.ntmps14, Exit.thenS]
  refine wpS_cond (t := false) (by simp [Act.eval, Array.replicate]) ?_
  simp only [Bool.false_eq_true, if_false]
  refine wpS_of_wp (wp_skip ?_)
  cases c₀
  simp_all [bodyPostS, results, Tryd.results14]

theorem results_cells {fn : Func} (h : fn.results = #[.cell 2 22, .cell 3 28]) (tmps : Array Value) (w : World) (p q : Addr) (u v : Value) (h4 : tmps.getD 2 undef = .pointer (some p)) (h5 : tmps.getD 3 undef = .pointer (some q)) (hp : w.cell? p = some u) (hq : w.cell? q = some v) :
    (results fn tmps).run Tryd.prog w = .ok (.tuple #[u, v]) w := by
  have h4' : tmps[2]?.getD undef = .pointer (some p) := by rw [← h4]; simp
  have h5' : tmps[3]?.getD undef = .pointer (some q) := by rw [← h5]; simp
  simp [results, h, go_sem, h4, h5, h4', h5', hp, hq]
theorem door_ok (fn : Func) (hres : fn.results = #[.cell 2 22, .cell 3 28]) (tmps : Array Value) (p q : Nat) (h4 : tmps.getD 2 undef = .pointer (some ⟨p, 0, none⟩)) (h5 : tmps.getD 3 undef = .pointer (some ⟨q, 0, none⟩)) (W : World) (u v : Value)
    (hs : W.heap[p]? = some (.cells #[u] 22 (0, 0))) (he : W.heap[q]? = some (.cells #[v] 28 (0, 0))) (R : Ending → World → Prop)
    (hR : R (.returned (.tuple #[u, v])) W) :
    Leaves Tryd.prog fn tmps R [{ target := .fn (.func 14) #[.pointer (some ⟨p, 0, none⟩), .pointer (some ⟨q, 0, none⟩)], args := #[] }] .returning W := by
  refine leaves_cons (f := 14) (args := #[.pointer (some ⟨p, 0, none⟩), .pointer (some ⟨q, 0, none⟩)]) (by simp) (by simp [go_sem]) ?_
  refine (caught_idle ⟨p, 0, none⟩ ⟨q, 0, none⟩ W).mono ?_
  rintro e u' W' ⟨rfl, rfl, rfl⟩
  exact ⟨_, results_cells hres tmps _ _ _ _ _ h4 h5 (blk_cell hs 0) (blk_cell he 0), hR⟩

theorem quietQ {K0 : Act → World → Prop} {d : Option Tmp} {v : Value} : ∀ c a w, (fun (e : Exit) (a : Act) (w : World) => e = .normal ∧ K0 a w) (.panic c) (a.put d v) w → (fun (e : Exit) (a : Act) (w : World) => e = .normal ∧ K0 a w) (.panic c) a w := fun c a w h => absurd h.1 (by simp)
theorem region_plain {P : Program} {ops : Array Oper} {id : Nat} {S : World → Prop} {Q : Exit → Act → World → Prop} {a : Act} {w : World} (hm : P.follows .mixedOrders = true) (hS : S w.drew)
    (h : S w.drew → wpAnyH P .any ops (fun e a w => e = .normal ∧ Q .normal a w) S ops.size (Array.replicate ops.size false) a w.drew) : (Code.region id ops true).wp P Q a w :=
  wp_mono (wp_region_held_drew hm hS h) (fun e a w ⟨he, h⟩ => by subst he; exact h)
theorem oper_append_run {P : Program} {w w' : World} {o : Oper} {a : Act} {K : Act → World → Prop} {Q : Exit → Act → World → Prop} (s x : Operand) (t : TypeId) (hop : o.op = Op.call { callee := Callee.builtin Builtin.append, args := #[s, x], argTypes := #[t, t] }) {v xv v' : Value}
    (hs : a.eval s = v) (hx : a.eval x = xv) (hrun : (Builtin.append_ #[t, t] o.type #[v, xv]).run P w = .ok v' w') (h : K (a.put o.dst v') w') : Oper.wp P o a w K Q := by
  unfold Oper.wp
  simp [execOp, hop, resolve, invoke, builtin, hs, hx, hrun, Result.andThen, Oper.upon, h]

/-- append(nil, zero): a block of its own. -/
theorem append_nil (W : World) (b : Nat) (hb : W.heap[b]? = some (.cells #[.int .i64 0, .string ⟨#[]⟩, .slice none 0 0, .slice none 0 0] 24 (0, 0))) :
    ∃ g cap w' cur, (Builtin.append_ #[22, 22] 22 #[.slice none 0 0, .slice (some ⟨b, 0, none⟩) 1 1]).run Tryd.prog W = .ok (.slice (some ⟨g, 0, none⟩) 1 cap) w' ∧ 1 ≤ cap ∧ W.heap.size ≤ g ∧ Below W.heap.size W w' ∧
      w'.heap[g]? = some (.cells cur 24 (0, 0)) ∧ 4 ≤ cur.size := by
  obtain ⟨i0, hi, hz0, hz1, hz2⟩ := info_parts infoD
  obtain ⟨v', w', hrun, h1, h2, h3⟩ := run_append_own (P := Tryd.prog) (w := W) W.heap.size 22 22 24 i0 z24v 4 72 Tryd.underlying22 hi hz0 hz1 hz2 rfl (by decide) (.slice none 0 0) 0 [] ⟨rfl, .inl ⟨rfl, rfl⟩⟩ ⟨b, 0, none⟩ 1 1 [.int .i64 0, .string ⟨#[]⟩, .slice none 0 0, .slice none 0 0] rfl
    (fun j u hj => by
      have e1 : (⟨b, 0, none⟩ : Addr).add j = ⟨b, j, none⟩ := by unfold Addr.add; by_cases h0 : j = 0 <;> simp [h0]
      rw [e1, blk_cell hb j]
      simpa using hj) (by
    intro u hu
    simp only [List.mem_cons, List.not_mem_nil, or_false] at hu
    rcases hu with rfl | rfl | rfl | rfl <;> rfl) (by unfold maxLen; omega) (by decide) (Nat.le_refl _)
  have hbl := (Below.refl W.heap.size W).grown h2 (Nat.le_refl _) (fun k e => by simp [Value.ownBlock] at e)
  rcases h1.2 with ⟨rfl, h0⟩ | ⟨g, cap, cur, rfl, hg, hh, hnc, hcm, hcs, htk⟩
  · exact absurd (h3.1 rfl).2 (by simp)
  · exact ⟨g, cap, w', cur, hrun, by omega, hg, hbl, hh, by omega⟩

/-- The state of Read: the captured list, the captured error, the reader. -/
structure RdW (w : World) (p q g : Nat) (s : ByteArray) (i : Nat) (u : Value) (W : World) : Prop where
  pc : W.heap[p]? = some (.cells #[u] 22 (0, 0))
  qc : W.heap[q]? = some (.cells #[.nilIface] 28 (0, 0))
  st : IsS46 w W g s (i : Int)
  b0 : Below w.heap.size w W
  pe : w.heap.size = p
  qe : p + 1 = q
  ge : q + 1 = g
theorem RdW.keep {w W W1 : World} {p q g : Nat} {s : ByteArray} {i i1 : Nat} {u : Value} (h : RdW w p q g s i u W) (h1 : IsS46 w W1 g s (i1 : Int)) (h2 : Below w.heap.size w W1) (h3 : KeepBut W W1 g none) : RdW w p q g s i1 u W1 :=
  ⟨(h3.2 p (blk_lt h.pc) (by have := h.qe; have := h.ge; omega) (by simp)).trans h.pc, (h3.2 q (blk_lt h.qc) (by have := h.ge; omega) (by simp)).trans h.qc, h1, h2, h.pe, h.qe, h.ge⟩
theorem RdW.below {w W W1 : World} {p q g : Nat} {s : ByteArray} {i : Nat} {u : Value} (h : RdW w p q g s i u W) (hb : Below W.heap.size W W1) : RdW w p q g s i u W1 :=
  h.keep (h.st.below hb) (below_weaken h.b0 h.b0.size hb) (keep_below (KeepBut.refl _ _ _) hb)
theorem RdW.alloc {w W : World} {p q g : Nat} {s : ByteArray} {i : Nat} {u : Value} (h : RdW w p q g s i u W) (o : Obj) : RdW w p q g s i u (W.alloc o) := h.below (below_alloc (Below.refl _ _) o)
theorem RdW.drew {w W : World} {p q g : Nat} {s : ByteArray} {i : Nat} {u : Value} (h : RdW w p q g s i u W) : RdW w p q g s i u W.drew := h.below (below_drew1 (Below.refl _ _))
theorem RdW.set {w W : World} {p q g : Nat} {s : ByteArray} {i : Nat} {u : Value} (h : RdW w p q g s i u W) (v : Value) : RdW w p q g s i v (W.setCell ⟨p, 0, none⟩ v) :=
  ⟨blk_set h.pc 0 v, blk_far h.qc (by have := h.qe; show q ≠ p; omega) v, h.st.far (by have := h.qe; have := h.ge; show g ≠ p; omega) v, h.b0.setCell (p := ⟨p, 0, none⟩) (Nat.le_of_eq h.pe) v, h.pe, h.qe, h.ge⟩
theorem RdW.far {w W : World} {p q g : Nat} {s : ByteArray} {i : Nat} {u : Value} (h : RdW w p q g s i u W) {a : Addr} (ha : g < a.block) (v : Value) : RdW w p q g s i u (W.setCell a v) :=
  ⟨blk_far h.pc (by have := h.qe; have := h.ge; omega) v, blk_far h.qc (by have := h.ge; omega) v, h.st.far (by omega) v, h.b0.setCell (by have := h.qe; have := h.ge; have := h.pe; omega) v, h.pe, h.qe, h.ge⟩

theorem blkcur {W : World} {g t : Nat} {cur : Array Value} (h : W.heap[g]? = some (.cells cur t (0, 0))) (hc : 4 ≤ cur.size) :
    (W.cell? ⟨g, 0, none⟩ = some cur[0] ∧ W.cell? ⟨g, 1, none⟩ = some cur[1] ∧ W.cell? ⟨g, 2, none⟩ = some cur[2] ∧ W.cell? ⟨g, 3, none⟩ = some cur[3]) ∧ (W.frozen? ⟨g, 0, none⟩ = false ∧ W.frozen? ⟨g, 1, none⟩ = false ∧ W.frozen? ⟨g, 2, none⟩ = false ∧ W.frozen? ⟨g, 3, none⟩ = false) :=
  ⟨⟨(blk_cell h 0).trans (by simp), (blk_cell h 1).trans (by simp), (blk_cell h 2).trans (by simp), (blk_cell h 3).trans (by simp)⟩, blk_frozen h 0, blk_frozen h 1, blk_frozen h 2, blk_frozen h 3⟩
theorem one_row {W w5 : World} {g g5 : Nat} {cur : Array Value} {x : S24} {c0 c1 c2 c3 : Value} (hF : Kd.FK k24 w5 (fun k => g < k ∧ k ≠ g5) x [c0, c1, c2, c3]) (hg : g < g5) (hm : ∀ k, g < k → k ≠ g5 → W.heap[k]? = w5.heap[k]?) (hb : W.heap[g5]? = some (.cells cur 24 (0, 0)))
    (h0 : cur[0]? = some c0) (h1 : cur[1]? = some c1) (h2 : cur[2]? = some c2) (h3 : cur[3]? = some c3) : Kd.F k24 W (fun k => g < k) (some ⟨g5, 0, none⟩) 1 [x] := by
  intro W' hW
  have hb' : W'.heap[g5]? = some (.cells cur 24 (0, 0)) := (hW g5 hg (blk_lt hb)).trans hb
  have hK := hF W' (fun k hk hlt => by
    have e1 := hm k hk.1 hk.2
    have hlt' : k < W.heap.size := by
      have h5 : w5.heap[k]? = some w5.heap[k] := Array.getElem?_eq_getElem hlt
      rw [h5] at e1
      exact (Array.getElem?_eq_some_iff.1 e1).1
    exact (hW k hk.1 hlt').trans e1)
  refine ⟨rfl, by decide, fun _ => ⟨_, rfl, fun j p hj => ?_⟩⟩
  have hj0 : j = 0 := by
    have := (List.getElem?_eq_some_iff.1 hj).1
    simpa using this
  subst hj0
  obtain rfl : x = p := by simpa using hj
  refine ⟨_, rfl, hK, fun i u hu => ?_⟩
  have e1 : (⟨g5, 0, none⟩ : Addr).add (0 * k24.sz + i) = ⟨g5, i, none⟩ := by unfold Addr.add; by_cases h0 : i = 0 <;> simp [h0]
  rw [e1, blk_cell hb']
  match i, hu with
  | 0, hu => rw [h0]; simpa using hu
  | 1, hu => rw [h1]; simpa using hu
  | 2, hu => rw [h2]; simpa using hu
  | 3, hu => rw [h3]; simpa using hu
  | i + 4, hu => simp at hu
theorem read_fin {w w5 : World} {p q g g5 : Nat} {s : ByteArray} {i : Nat} {u : Value} {cur : Array Value} {x : S24} {c0 c1 c2 c3 : Value} (h : RdW w p q g s i u w5) (hb : w5.heap[g5]? = some (.cells cur 24 (0, 0))) (hz : 4 ≤ cur.size) (hg : g < g5) (cap : Nat)
    (hF : Kd.FK k24 w5 (fun k => g < k ∧ k ≠ g5) x [c0, c1, c2, c3]) :
    (RdW w p q g s i (.slice (some ⟨g5, 0, none⟩) 1 cap) ((((((w5.setCell ⟨p, 0, none⟩ (.slice (some ⟨g5, 0, none⟩) 1 cap)).setCell ⟨g5, 0, none⟩ c0).setCell ⟨g5, 1, none⟩ c1).setCell ⟨g5, 2, none⟩ c2).setCell ⟨g5, 3, none⟩ c3)) ∧
      Kd.F k24 ((((((w5.setCell ⟨p, 0, none⟩ (.slice (some ⟨g5, 0, none⟩) 1 cap)).setCell ⟨g5, 0, none⟩ c0).setCell ⟨g5, 1, none⟩ c1).setCell ⟨g5, 2, none⟩ c2).setCell ⟨g5, 3, none⟩ c3)) (fun k => g < k) (some ⟨g5, 0, none⟩) 1 [x]) ∧
    (RdW w p q g s i (.slice (some ⟨g5, 0, none⟩) 1 cap) ((((((w5.setCell ⟨g5, 0, none⟩ c0).setCell ⟨g5, 1, none⟩ c1).setCell ⟨g5, 2, none⟩ c2).setCell ⟨g5, 3, none⟩ c3)).setCell ⟨p, 0, none⟩ (.slice (some ⟨g5, 0, none⟩) 1 cap)) ∧
      Kd.F k24 ((((((w5.setCell ⟨g5, 0, none⟩ c0).setCell ⟨g5, 1, none⟩ c1).setCell ⟨g5, 2, none⟩ c2).setCell ⟨g5, 3, none⟩ c3)).setCell ⟨p, 0, none⟩ (.slice (some ⟨g5, 0, none⟩) 1 cap)) (fun k => g < k) (some ⟨g5, 0, none⟩) 1 [x]) := by
  have hgp : g5 ≠ p := by have := h.qe; have := h.ge; omega
  have hpg : p < g := by have := h.qe; have := h.ge; omega
  have get : ∀ (j : Nat) (c : Value), j < 4 → (((((cur.setIfInBounds 0 c0).setIfInBounds 1 c1).setIfInBounds 2 c2).setIfInBounds 3 c3)[j]? = some c ↔ [c0, c1, c2, c3][j]? = some c) := fun j c hj => by
    match j, hj with
    | 0, _ => simp [Array.getElem?_setIfInBounds]; omega
    | 1, _ => simp [Array.getElem?_setIfInBounds]; omega
    | 2, _ => simp [Array.getElem?_setIfInBounds]; omega
    | 3, _ => simp [Array.getElem?_setIfInBounds]; omega
  refine ⟨⟨((((h.set _).far (a := ⟨g5, 0, none⟩) hg _).far (a := ⟨g5, 1, none⟩) hg _).far (a := ⟨g5, 2, none⟩) hg _).far (a := ⟨g5, 3, none⟩) hg _, ?_⟩, ⟨((((h.far (a := ⟨g5, 0, none⟩) hg _).far (a := ⟨g5, 1, none⟩) hg _).far (a := ⟨g5, 2, none⟩) hg _).far (a := ⟨g5, 3, none⟩) hg _).set _, ?_⟩⟩
  · refine one_row (cur := ((((cur.setIfInBounds 0 c0).setIfInBounds 1 c1).setIfInBounds 2 c2).setIfInBounds 3 c3)) hF hg (fun k hk hk5 => ?_) (blk_set (blk_set (blk_set (blk_set (blk_far hb hgp _) 0 c0) 1 c1) 2 c2) 3 c3) ((get 0 c0 (by decide)).2 rfl) ((get 1 c1 (by decide)).2 rfl) ((get 2 c2 (by decide)).2 rfl) ((get 3 c3 (by decide)).2 rfl)
    rw [Below.heap_setCell _ _ _ _ hk5, Below.heap_setCell _ _ _ _ hk5, Below.heap_setCell _ _ _ _ hk5, Below.heap_setCell _ _ _ _ hk5, Below.heap_setCell _ _ _ _ (by show k ≠ p; omega)]
  · refine one_row (cur := ((((cur.setIfInBounds 0 c0).setIfInBounds 1 c1).setIfInBounds 2 c2).setIfInBounds 3 c3)) hF hg (fun k hk hk5 => ?_) (blk_far (blk_set (blk_set (blk_set (blk_set hb 0 c0) 1 c1) 2 c2) 3 c3) hgp _) ((get 0 c0 (by decide)).2 rfl) ((get 1 c1 (by decide)).2 rfl) ((get 2 c2 (by decide)).2 rfl) ((get 3 c3 (by decide)).2 rfl)
    rw [Below.heap_setCell _ _ _ _ (by show k ≠ p; omega), Below.heap_setCell _ _ _ _ hk5, Below.heap_setCell _ _ _ _ hk5, Below.heap_setCell _ _ _ _ hk5, Below.heap_setCell _ _ _ _ hk5]

set_option maxRecDepth 100000 in
set_option maxHeartbeats 8000000 in
theorem read_one (s : ByteArray) (hs : s.size ≤ 1000000000) (x : S24) (n : Nat) (hx : datF n 0 s.data.toList = some (x, [])) (hsk : sk s.data.toList = s.data.toList) (hne : s.data.toList ≠ []) (w : World) :
    Calls Tryd.prog 7 #[.string s] w fun e w' => ∃ A c, e = .returned (.tuple #[.slice A 1 c, .nilIface]) ∧ 1 ≤ c ∧ Kd.C k24 w' A 1 [x] ∧ Below w.heap.size w w' := by
  have hu24 := Tryd.underlying24
  have hmf : ∀ (fn : Fn) (first cap : Array Value) (w : World), (Instr.makeFunc fn first cap).run Tryd.prog w = .ok (.func fn first cap) w := fun _ _ _ _ => rfl
  have hlen : s.data.toList.length = s.size := by simp
  have hpos : 0 < s.size := by have := List.length_pos_iff.2 hne; omega
  obtain ⟨k1, hk1⟩ := (skip_ev s (by omega) 0 (by omega)).rounds
  rw [List.drop_zero, hsk, hlen, Nat.sub_self] at hk1
  obtain ⟨k2, hk2⟩ := (skip_ev s (by omega) s.size (Nat.le_refl _)).rounds
  rw [List.drop_eq_nil_of_le (by simp), show sk [] = [] from rfl, List.length_nil, Nat.sub_zero] at hk2
  have HK1 := Aside0.mk hk1
  have HK2 := Aside0.mk hk2
  have HX := Aside0.mk hx
  have HS0 := Aside0.mk (show RdW w w.heap.size (w.heap.size + 1) (w.heap.size + 1 + 1) s 0 (.slice none 0 0) (((w.alloc (.cells #[.slice none 0 0] 22)).alloc (.cells #[.nilIface] 28)).alloc (.cells #[.string s, .int .i64 0] 46)) from by
    have e1 : (w.alloc (.cells #[.slice none 0 0] 22)).heap.size = w.heap.size + 1 := by simp
    have e2 : ((w.alloc (.cells #[.slice none 0 0] 22)).alloc (.cells #[.nilIface] 28)).heap.size = w.heap.size + 1 + 1 := by simp
    refine ⟨blk_alloc (blk_alloc (blk_new w _) _) _, ?_, ?_, below_alloc (below_alloc (below_alloc (Below.refl _ _) _) _) _, rfl, rfl, rfl⟩
    · have := blk_new (w.alloc (.cells #[.slice none 0 0] 22)) (.cells #[.nilIface] 28)
      rw [e1] at this
      exact blk_alloc this _
    · have := IsS46.new w ((w.alloc (.cells #[.slice none 0 0] 22)).alloc (.cells #[.nilIface] 28)) s 0 (below_alloc (below_alloc (Below.refl _ _) _) _)
      rw [e2] at this
      exact this)
  clear hk1 hk2 hx hsk hne hlen
  go_enter_defers Tryd.func7, Tryd.ntmps7
  go_wp2_with fail
  generalize hg : w.heap.size + 1 + 1 = g at *
  generalize hq : w.heap.size + 1 = q at *
  generalize hp : w.heap.size = p at *
  refine (datum_reader_skip.calls k1 g s 0 s 0 w _ HS0.out.st HS0.out.b0 HK1.out).mono ?_
  rintro e w1 ⟨rfl, h1, h2, h3⟩
  have HS1 := Aside0.mk (HS0.out.keep (i1 := 0) h1 h2 h3)
  clear h1 h2 h3 HS0 hg hq hp
  go_wp2_with fail
  go_loopg [] 2 (fun kq w' => Aside0 ((kq = 2 ∧ RdW w p q g s 0 (.slice none 0 0) w') ∨ (kq = 1 ∧ ∃ A c, 1 ≤ c ∧ RdW w p q g s s.size (.slice A 1 c) w' ∧ Kd.F k24 w' (fun k => g < k) A 1 [x])))
  case atStart => exact ⟨.inl ⟨rfl, HS1.out⟩⟩
  case round =>
    clear HS1
    obtain ⟨hrel⟩ := hrel
    rcases hrel with ⟨rfl, hS⟩ | ⟨rfl, A, c, hc, hS, hF⟩
    · have HS := Aside0.mk hS
      obtain ⟨x0, x1, x2⟩ := hS.st.cells
      have hltb : decide ((0 : Int) < (s.size : Int)) = true := decide_eq_true (by omega)
      have y0 : wr.cell? ⟨p, 0, none⟩ = some (.slice none 0 0) := blk_cell hS.pc 0
      clear hS
      go_upto_region 6 with fail
      have HSD := Aside0.mk HS.out.drew
      clear x0 x1 x2 y0 hltb HS
      refine region_plain (S := fun _ => True) (by kernel_rfl) trivial (fun _ => ?_)
      generalize wr.drew = W0 at *
      refine wpAnyH_take (i := 1) (v := ?_) rfl (by kernel_rfl) (by kernel_rfl) (by kernel_rfl) quietQ (Or.inl ⟨by rfl, ?_⟩) trivial ?_
      rotate_left
      · intro w hSw; (try dsimp only at hSw); go_simp
        all_goals with_reducible rfl
      try simp only [List.getElem_toArray, List.getElem_cons_succ, List.getElem_cons_zero, Act.put, List.setIfInBounds_toArray, List.set_cons_zero, List.set_cons_succ]
      refine wpAnyH_ready (rs := [0, 2, 4]) (by kernel_rfl) (by simp) ?_
      refine AllReadyH.cons rfl (fun K hK => ?_) (AllReadyH.cons rfl (fun K hK => ?_) (AllReadyH.cons rfl (fun K hK => ?_) AllReadyH.nil))
      · skip
        have y1 := blk_cell HSD.out.pc 0
        simp only [List.getElem?_toArray, List.getElem?_cons_zero] at y1
        go_simp
        refine hK.out _ _ trivial (fun _ => ?_)
        clear hK K y1
        try simp only [List.getElem_toArray, List.getElem_cons_succ, List.getElem_cons_zero, Act.put, List.setIfInBounds_toArray, List.set_cons_zero, List.set_cons_succ]
        refine wpAnyH_take (i := 3) (v := ?_) rfl (by kernel_rfl) (by kernel_rfl) (by kernel_rfl) quietQ (Or.inl ⟨by rfl, ?_⟩) trivial ?_
        rotate_left
        · intro w hSw; (try dsimp only at hSw); go_simp
          all_goals with_reducible rfl
        try simp only [List.getElem_toArray, List.getElem_cons_succ, List.getElem_cons_zero, Act.put, List.setIfInBounds_toArray, List.set_cons_zero, List.set_cons_succ]
        refine wpAnyH_ready (rs := [2, 4]) (by kernel_rfl) (by simp) ?_
        refine AllReadyH.cons rfl (fun K hK => ?_) (AllReadyH.cons rfl (fun K hK => ?_) AllReadyH.nil)
        · skip
          go_simp
          go_at_call 16
          refine ((reads_at n).1 0 g s 0 x [] w _ hs (by omega) (by omega) HX.out HSD.out.st HSD.out.b0).mono ?_
          rintro e w2 ⟨A2_, d2_, A3_, d3_, rfl, hfk, h1, h2, h3⟩
          have H2 := Aside0.mk (HSD.out.keep (i1 := s.size) (by simpa using h1) h2 h3)
          have hgW := HSD.out.st.lt
          have F2 := Aside0.mk (Kd.FK_mono hfk (fun k hk => (by omega : g < k)))
          refine hK.out _ _ trivial (fun _ => ?_)
          clear hK K h1 h2 h3 hfk hgW
          try simp only [List.getElem_toArray, List.getElem_cons_succ, List.getElem_cons_zero, Act.put, List.setIfInBounds_toArray, List.set_cons_zero, List.set_cons_succ]
          refine wpAnyH_ready (rs := [4]) (by kernel_rfl) (by simp) ?_
          refine AllReadyH.cons rfl (fun K hK => ?_) AllReadyH.nil
          · skip
            go_simp
            have hb4 := H2.out.st.lt
            have H3 := Aside0.mk (H2.out.alloc (.cells #[.int .i64 0, .string ⟨#[]⟩, .slice none 0 0, .slice none 0 0] 24))
            have B3 := Aside0.mk (blk_new _ _ : (World.alloc w2 (.cells #[.int .i64 0, .string ⟨#[]⟩, .slice none 0 0, .slice none 0 0] 24)).heap[World.heap w2 |>.size]? = _)
            have F3 := Aside0.mk (Kd.FK_below F2.out (below_alloc (Below.refl _ _) (.cells #[.int .i64 0, .string ⟨#[]⟩, .slice none 0 0, .slice none 0 0] 24)))
            refine hK.out _ _ trivial (fun _ => ?_)
            clear hK K
            try simp only [List.getElem_toArray, List.getElem_cons_succ, List.getElem_cons_zero, Act.put, List.setIfInBounds_toArray, List.set_cons_zero, List.set_cons_succ]
            refine wpAnyH_ready (rs := [5]) (by kernel_rfl) (by simp) ?_
            refine AllReadyH.cons rfl (fun K hK => ?_) AllReadyH.nil
            · skip
              obtain ⟨g5, cap, w5, cur, hrun, hcap, hg5, hb5, hcur, hcz⟩ := append_nil (World.alloc w2 (.cells #[.int .i64 0, .string ⟨#[]⟩, .slice none 0 0, .slice none 0 0] 24)) (World.heap w2).size B3.out
              have HRUN := Aside0.mk hrun
              have H5 := Aside0.mk (H3.out.below hb5)
              have hgl := H3.out.st.lt
              have F5 := Aside0.mk (Kd.FK_below (Kd.FK_bound F3.out) hb5)
              have F5' := Aside0.mk (Kd.FK_mono F5.out (fun k hk => (⟨hk.1, by have := hk.2; omega⟩ : g < k ∧ k ≠ g5)))
              have HFIN := Aside0.mk (read_fin H5.out hcur hcz (by omega) cap F5'.out)
              obtain ⟨⟨z0, z1, z2, z3⟩, f0, f1, f2, f3⟩ := blkcur hcur hcz
              have yp := blk_cell H5.out.pc 0
              simp only [List.getElem?_toArray, List.getElem?_cons_zero] at yp
              have fp := blk_frozen H5.out.pc 0
              have hgp : g5 ≠ p := by have := H5.out.qe; have := H5.out.ge; omega
              clear hrun hcur hb5
              rw [if_pos (by rfl)]
              refine oper_append_run (.tmp 20) (.tmp 24) 22 rfl rfl rfl HRUN.out ?_
              refine hK.out _ _ trivial (fun _ => ?_)
              try simp only [List.getElem_toArray, List.getElem_cons_succ, List.getElem_cons_zero, Act.put, List.setIfInBounds_toArray, List.set_cons_zero, List.set_cons_succ]
              clear hK K HRUN
              try simp only [List.getElem_toArray, List.getElem_cons_succ, List.getElem_cons_zero, Act.put, List.setIfInBounds_toArray, List.set_cons_zero, List.set_cons_succ]
              refine wpAnyH_take (i := 6) (v := ?_) rfl (by kernel_rfl) (by kernel_rfl) (by kernel_rfl) quietQ (Or.inl ⟨by rfl, ?_⟩) trivial ?_
              rotate_left
              · intro w hSw; (try dsimp only at hSw); go_simp
                all_goals with_reducible rfl
              try simp only [List.getElem_toArray, List.getElem_cons_succ, List.getElem_cons_zero, Act.put, List.setIfInBounds_toArray, List.set_cons_zero, List.set_cons_succ]
              refine wpAnyH_ready (rs := [7, 8]) (by kernel_rfl) (by simp) ?_
              refine AllReadyH.cons rfl (fun K hK => ?_) (AllReadyH.cons rfl (fun K hK => ?_) AllReadyH.nil)
              · skip
                go_simp
                refine hK.out _ _ trivial (fun _ => ?_)
                clear hK K
                try simp only [List.getElem_toArray, List.getElem_cons_succ, List.getElem_cons_zero, Act.put, List.setIfInBounds_toArray, List.set_cons_zero, List.set_cons_succ]
                refine wpAnyH_ready (rs := [8]) (by kernel_rfl) (by simp) ?_
                refine AllReadyH.cons rfl (fun K hK => ?_) AllReadyH.nil
                · skip
                  go_simp
                  refine hK.out _ _ trivial (fun _ => ?_)
                  clear hK K
                  try simp only [List.getElem_toArray, List.getElem_cons_succ, List.getElem_cons_zero, Act.put, List.setIfInBounds_toArray, List.set_cons_zero, List.set_cons_succ]
                  refine wpAnyH_done (by kernel_rfl) ?_ _
                  refine And.intro rfl ?_
                  have HR1 := Aside0.mk HFIN.out.2.1
                  have HR2 := Aside0.mk HFIN.out.2.2
                  clear z0 z1 z2 z3 f0 f1 f2 f3 yp fp HFIN
                  go_wp2_with fail
                  refine (datum_reader_skip.calls k2 g s (s.size : Int) s (s.size : Int) w _ HR1.out.st HR1.out.b0 HK2.out).mono ?_
                  rintro e w9 ⟨rfl, h1, h2, h3⟩
                  have HR3 := Aside0.mk (HR1.out.keep (i1 := s.size) h1 h2 h3)
                  have HR4 := Aside0.mk (Kd.F_keep HR2.out h3 (fun k hk => (by omega : k ≠ g)))
                  clear h1 h2 h3
                  go_wp2_with fail
                  go_roundg 1
                  case measure => omega
                  case rel => exact ⟨.inr ⟨rfl, some ⟨g5, 0, none⟩, cap, hcap, HR3.out, HR4.out⟩⟩
              · skip
                go_simp
                refine hK.out _ _ trivial (fun _ => ?_)
                clear hK K
                try simp only [List.getElem_toArray, List.getElem_cons_succ, List.getElem_cons_zero, Act.put, List.setIfInBounds_toArray, List.set_cons_zero, List.set_cons_succ]
                refine wpAnyH_ready (rs := [7]) (by kernel_rfl) (by simp) ?_
                refine AllReadyH.cons rfl (fun K hK => ?_) AllReadyH.nil
                · skip
                  go_simp
                  refine hK.out _ _ trivial (fun _ => ?_)
                  clear hK K
                  try simp only [List.getElem_toArray, List.getElem_cons_succ, List.getElem_cons_zero, Act.put, List.setIfInBounds_toArray, List.set_cons_zero, List.set_cons_succ]
                  refine wpAnyH_done (by kernel_rfl) ?_ _
                  refine And.intro rfl ?_
                  have HR1 := Aside0.mk HFIN.out.1.1
                  have HR2 := Aside0.mk HFIN.out.1.2
                  clear z0 z1 z2 z3 f0 f1 f2 f3 yp fp HFIN
                  go_wp2_with fail
                  refine (datum_reader_skip.calls k2 g s (s.size : Int) s (s.size : Int) w _ HR1.out.st HR1.out.b0 HK2.out).mono ?_
                  rintro e w9 ⟨rfl, h1, h2, h3⟩
                  have HR3 := Aside0.mk (HR1.out.keep (i1 := s.size) h1 h2 h3)
                  have HR4 := Aside0.mk (Kd.F_keep HR2.out h3 (fun k hk => (by omega : k ≠ g)))
                  clear h1 h2 h3
                  go_wp2_with fail
                  go_roundg 1
                  case measure => omega
                  case rel => exact ⟨.inr ⟨rfl, some ⟨g5, 0, none⟩, cap, hcap, HR3.out, HR4.out⟩⟩
        · skip
          go_simp
          have hb4 := HSD.out.st.lt
          have H9 := Aside0.mk (HSD.out.alloc (.cells #[.int .i64 0, .string ⟨#[]⟩, .slice none 0 0, .slice none 0 0] 24))
          have B9 := Aside0.mk (blk_new _ _ : (World.alloc W0 (.cells #[.int .i64 0, .string ⟨#[]⟩, .slice none 0 0, .slice none 0 0] 24)).heap[World.heap W0 |>.size]? = _)
          refine hK.out _ _ trivial (fun _ => ?_)
          clear hK K
          try simp only [List.getElem_toArray, List.getElem_cons_succ, List.getElem_cons_zero, Act.put, List.setIfInBounds_toArray, List.set_cons_zero, List.set_cons_succ]
          refine wpAnyH_ready (rs := [2]) (by kernel_rfl) (by simp) ?_
          refine AllReadyH.cons rfl (fun K hK => ?_) AllReadyH.nil
          · skip
            go_simp
            go_at_call 16
            refine ((reads_at n).1 0 g s 0 x [] w _ hs (by omega) (by omega) HX.out H9.out.st H9.out.b0).mono ?_
            rintro e w10 ⟨A2_, d2_, A3_, d3_, rfl, hfk, h1, h2, h3⟩
            have H10 := Aside0.mk (H9.out.keep (i1 := s.size) (by simpa using h1) h2 h3)
            have hgW := H9.out.st.lt
            have F10 := Aside0.mk (Kd.FK_mono hfk (fun k hk => (by omega : g < k)))
            have B10 := Aside0.mk ((h3.2 _ (blk_lt B9.out) (by omega) (by simp)).trans B9.out)
            refine hK.out _ _ trivial (fun _ => ?_)
            clear hK K h1 h2 h3 hfk hgW
            try simp only [List.getElem_toArray, List.getElem_cons_succ, List.getElem_cons_zero, Act.put, List.setIfInBounds_toArray, List.set_cons_zero, List.set_cons_succ]
            refine wpAnyH_ready (rs := [5]) (by kernel_rfl) (by simp) ?_
            refine AllReadyH.cons rfl (fun K hK => ?_) AllReadyH.nil
            · skip
              obtain ⟨g5, cap, w5, cur, hrun, hcap, hg5, hb5, hcur, hcz⟩ := append_nil w10 (World.heap W0).size B10.out
              have HRUN := Aside0.mk hrun
              have H5 := Aside0.mk (H10.out.below hb5)
              have hgl := H10.out.st.lt
              have F5 := Aside0.mk (Kd.FK_below (Kd.FK_bound F10.out) hb5)
              have F5' := Aside0.mk (Kd.FK_mono F5.out (fun k hk => (⟨hk.1, by have := hk.2; omega⟩ : g < k ∧ k ≠ g5)))
              have HFIN := Aside0.mk (read_fin H5.out hcur hcz (by omega) cap F5'.out)
              obtain ⟨⟨z0, z1, z2, z3⟩, f0, f1, f2, f3⟩ := blkcur hcur hcz
              have yp := blk_cell H5.out.pc 0
              simp only [List.getElem?_toArray, List.getElem?_cons_zero] at yp
              have fp := blk_frozen H5.out.pc 0
              have hgp : g5 ≠ p := by have := H5.out.qe; have := H5.out.ge; omega
              clear hrun hcur hb5
              rw [if_pos (by rfl)]
              refine oper_append_run (.tmp 20) (.tmp 24) 22 rfl rfl rfl HRUN.out ?_
              refine hK.out _ _ trivial (fun _ => ?_)
              try simp only [List.getElem_toArray, List.getElem_cons_succ, List.getElem_cons_zero, Act.put, List.setIfInBounds_toArray, List.set_cons_zero, List.set_cons_succ]
              clear hK K HRUN
              try simp only [List.getElem_toArray, List.getElem_cons_succ, List.getElem_cons_zero, Act.put, List.setIfInBounds_toArray, List.set_cons_zero, List.set_cons_succ]
              refine wpAnyH_take (i := 6) (v := ?_) rfl (by kernel_rfl) (by kernel_rfl) (by kernel_rfl) quietQ (Or.inl ⟨by rfl, ?_⟩) trivial ?_
              rotate_left
              · intro w hSw; (try dsimp only at hSw); go_simp
                all_goals with_reducible rfl
              try simp only [List.getElem_toArray, List.getElem_cons_succ, List.getElem_cons_zero, Act.put, List.setIfInBounds_toArray, List.set_cons_zero, List.set_cons_succ]
              refine wpAnyH_ready (rs := [7, 8]) (by kernel_rfl) (by simp) ?_
              refine AllReadyH.cons rfl (fun K hK => ?_) (AllReadyH.cons rfl (fun K hK => ?_) AllReadyH.nil)
              · skip
                go_simp
                refine hK.out _ _ trivial (fun _ => ?_)
                clear hK K
                try simp only [List.getElem_toArray, List.getElem_cons_succ, List.getElem_cons_zero, Act.put, List.setIfInBounds_toArray, List.set_cons_zero, List.set_cons_succ]
                refine wpAnyH_ready (rs := [8]) (by kernel_rfl) (by simp) ?_
                refine AllReadyH.cons rfl (fun K hK => ?_) AllReadyH.nil
                · skip
                  go_simp
                  refine hK.out _ _ trivial (fun _ => ?_)
                  clear hK K
                  try simp only [List.getElem_toArray, List.getElem_cons_succ, List.getElem_cons_zero, Act.put, List.setIfInBounds_toArray, List.set_cons_zero, List.set_cons_succ]
                  refine wpAnyH_done (by kernel_rfl) ?_ _
                  refine And.intro rfl ?_
                  have HR1 := Aside0.mk HFIN.out.2.1
                  have HR2 := Aside0.mk HFIN.out.2.2
                  clear z0 z1 z2 z3 f0 f1 f2 f3 yp fp HFIN
                  go_wp2_with fail
                  refine (datum_reader_skip.calls k2 g s (s.size : Int) s (s.size : Int) w _ HR1.out.st HR1.out.b0 HK2.out).mono ?_
                  rintro e w9 ⟨rfl, h1, h2, h3⟩
                  have HR3 := Aside0.mk (HR1.out.keep (i1 := s.size) h1 h2 h3)
                  have HR4 := Aside0.mk (Kd.F_keep HR2.out h3 (fun k hk => (by omega : k ≠ g)))
                  clear h1 h2 h3
                  go_wp2_with fail
                  go_roundg 1
                  case measure => omega
                  case rel => exact ⟨.inr ⟨rfl, some ⟨g5, 0, none⟩, cap, hcap, HR3.out, HR4.out⟩⟩
              · skip
                go_simp
                refine hK.out _ _ trivial (fun _ => ?_)
                clear hK K
                try simp only [List.getElem_toArray, List.getElem_cons_succ, List.getElem_cons_zero, Act.put, List.setIfInBounds_toArray, List.set_cons_zero, List.set_cons_succ]
                refine wpAnyH_ready (rs := [7]) (by kernel_rfl) (by simp) ?_
                refine AllReadyH.cons rfl (fun K hK => ?_) AllReadyH.nil
                · skip
                  go_simp
                  refine hK.out _ _ trivial (fun _ => ?_)
                  clear hK K
                  try simp only [List.getElem_toArray, List.getElem_cons_succ, List.getElem_cons_zero, Act.put, List.setIfInBounds_toArray, List.set_cons_zero, List.set_cons_succ]
                  refine wpAnyH_done (by kernel_rfl) ?_ _
                  refine And.intro rfl ?_
                  have HR1 := Aside0.mk HFIN.out.1.1
                  have HR2 := Aside0.mk HFIN.out.1.2
                  clear z0 z1 z2 z3 f0 f1 f2 f3 yp fp HFIN
                  go_wp2_with fail
                  refine (datum_reader_skip.calls k2 g s (s.size : Int) s (s.size : Int) w _ HR1.out.st HR1.out.b0 HK2.out).mono ?_
                  rintro e w9 ⟨rfl, h1, h2, h3⟩
                  have HR3 := Aside0.mk (HR1.out.keep (i1 := s.size) h1 h2 h3)
                  have HR4 := Aside0.mk (Kd.F_keep HR2.out h3 (fun k hk => (by omega : k ≠ g)))
                  clear h1 h2 h3
                  go_wp2_with fail
                  go_roundg 1
                  case measure => omega
                  case rel => exact ⟨.inr ⟨rfl, some ⟨g5, 0, none⟩, cap, hcap, HR3.out, HR4.out⟩⟩
      · skip
        go_simp
        go_at_call 16
        refine ((reads_at n).1 0 g s 0 x [] w _ hs (by omega) (by omega) HX.out HSD.out.st HSD.out.b0).mono ?_
        rintro e w16 ⟨A2_, d2_, A3_, d3_, rfl, hfk, h1, h2, h3⟩
        have H16 := Aside0.mk (HSD.out.keep (i1 := s.size) (by simpa using h1) h2 h3)
        have hgW := HSD.out.st.lt
        have F16 := Aside0.mk (Kd.FK_mono hfk (fun k hk => (by omega : g < k)))
        refine hK.out _ _ trivial (fun _ => ?_)
        clear hK K h1 h2 h3 hfk hgW
        try simp only [List.getElem_toArray, List.getElem_cons_succ, List.getElem_cons_zero, Act.put, List.setIfInBounds_toArray, List.set_cons_zero, List.set_cons_succ]
        refine wpAnyH_ready (rs := [0, 4]) (by kernel_rfl) (by simp) ?_
        refine AllReadyH.cons rfl (fun K hK => ?_) (AllReadyH.cons rfl (fun K hK => ?_) AllReadyH.nil)
        · skip
          have y17 := blk_cell H16.out.pc 0
          simp only [List.getElem?_toArray, List.getElem?_cons_zero] at y17
          go_simp
          refine hK.out _ _ trivial (fun _ => ?_)
          clear hK K y17
          try simp only [List.getElem_toArray, List.getElem_cons_succ, List.getElem_cons_zero, Act.put, List.setIfInBounds_toArray, List.set_cons_zero, List.set_cons_succ]
          refine wpAnyH_take (i := 3) (v := ?_) rfl (by kernel_rfl) (by kernel_rfl) (by kernel_rfl) quietQ (Or.inl ⟨by rfl, ?_⟩) trivial ?_
          rotate_left
          · intro w hSw; (try dsimp only at hSw); go_simp
            all_goals with_reducible rfl
          try simp only [List.getElem_toArray, List.getElem_cons_succ, List.getElem_cons_zero, Act.put, List.setIfInBounds_toArray, List.set_cons_zero, List.set_cons_succ]
          refine wpAnyH_ready (rs := [4]) (by kernel_rfl) (by simp) ?_
          refine AllReadyH.cons rfl (fun K hK => ?_) AllReadyH.nil
          · skip
            go_simp
            have hb4 := H16.out.st.lt
            have H18 := Aside0.mk (H16.out.alloc (.cells #[.int .i64 0, .string ⟨#[]⟩, .slice none 0 0, .slice none 0 0] 24))
            have B18 := Aside0.mk (blk_new _ _ : (World.alloc w16 (.cells #[.int .i64 0, .string ⟨#[]⟩, .slice none 0 0, .slice none 0 0] 24)).heap[World.heap w16 |>.size]? = _)
            have F18 := Aside0.mk (Kd.FK_below F16.out (below_alloc (Below.refl _ _) (.cells #[.int .i64 0, .string ⟨#[]⟩, .slice none 0 0, .slice none 0 0] 24)))
            refine hK.out _ _ trivial (fun _ => ?_)
            clear hK K
            try simp only [List.getElem_toArray, List.getElem_cons_succ, List.getElem_cons_zero, Act.put, List.setIfInBounds_toArray, List.set_cons_zero, List.set_cons_succ]
            refine wpAnyH_ready (rs := [5]) (by kernel_rfl) (by simp) ?_
            refine AllReadyH.cons rfl (fun K hK => ?_) AllReadyH.nil
            · skip
              obtain ⟨g5, cap, w5, cur, hrun, hcap, hg5, hb5, hcur, hcz⟩ := append_nil (World.alloc w16 (.cells #[.int .i64 0, .string ⟨#[]⟩, .slice none 0 0, .slice none 0 0] 24)) (World.heap w16).size B18.out
              have HRUN := Aside0.mk hrun
              have H5 := Aside0.mk (H18.out.below hb5)
              have hgl := H18.out.st.lt
              have F5 := Aside0.mk (Kd.FK_below (Kd.FK_bound F18.out) hb5)
              have F5' := Aside0.mk (Kd.FK_mono F5.out (fun k hk => (⟨hk.1, by have := hk.2; omega⟩ : g < k ∧ k ≠ g5)))
              have HFIN := Aside0.mk (read_fin H5.out hcur hcz (by omega) cap F5'.out)
              obtain ⟨⟨z0, z1, z2, z3⟩, f0, f1, f2, f3⟩ := blkcur hcur hcz
              have yp := blk_cell H5.out.pc 0
              simp only [List.getElem?_toArray, List.getElem?_cons_zero] at yp
              have fp := blk_frozen H5.out.pc 0
              have hgp : g5 ≠ p := by have := H5.out.qe; have := H5.out.ge; omega
              clear hrun hcur hb5
              rw [if_pos (by rfl)]
              refine oper_append_run (.tmp 20) (.tmp 24) 22 rfl rfl rfl HRUN.out ?_
              refine hK.out _ _ trivial (fun _ => ?_)
              try simp only [List.getElem_toArray, List.getElem_cons_succ, List.getElem_cons_zero, Act.put, List.setIfInBounds_toArray, List.set_cons_zero, List.set_cons_succ]
              clear hK K HRUN
              try simp only [List.getElem_toArray, List.getElem_cons_succ, List.getElem_cons_zero, Act.put, List.setIfInBounds_toArray, List.set_cons_zero, List.set_cons_succ]
              refine wpAnyH_take (i := 6) (v := ?_) rfl (by kernel_rfl) (by kernel_rfl) (by kernel_rfl) quietQ (Or.inl ⟨by rfl, ?_⟩) trivial ?_
              rotate_left
              · intro w hSw; (try dsimp only at hSw); go_simp
                all_goals with_reducible rfl
              try simp only [List.getElem_toArray, List.getElem_cons_succ, List.getElem_cons_zero, Act.put, List.setIfInBounds_toArray, List.set_cons_zero, List.set_cons_succ]
              refine wpAnyH_ready (rs := [7, 8]) (by kernel_rfl) (by simp) ?_
              refine AllReadyH.cons rfl (fun K hK => ?_) (AllReadyH.cons rfl (fun K hK => ?_) AllReadyH.nil)
              · skip
                go_simp
                refine hK.out _ _ trivial (fun _ => ?_)
                clear hK K
                try simp only [List.getElem_toArray, List.getElem_cons_succ, List.getElem_cons_zero, Act.put, List.setIfInBounds_toArray, List.set_cons_zero, List.set_cons_succ]
                refine wpAnyH_ready (rs := [8]) (by kernel_rfl) (by simp) ?_
                refine AllReadyH.cons rfl (fun K hK => ?_) AllReadyH.nil
                · skip
                  go_simp
                  refine hK.out _ _ trivial (fun _ => ?_)
                  clear hK K
                  try simp only [List.getElem_toArray, List.getElem_cons_succ, List.getElem_cons_zero, Act.put, List.setIfInBounds_toArray, List.set_cons_zero, List.set_cons_succ]
                  refine wpAnyH_done (by kernel_rfl) ?_ _
                  refine And.intro rfl ?_
                  have HR1 := Aside0.mk HFIN.out.2.1
                  have HR2 := Aside0.mk HFIN.out.2.2
                  clear z0 z1 z2 z3 f0 f1 f2 f3 yp fp HFIN
                  go_wp2_with fail
                  refine (datum_reader_skip.calls k2 g s (s.size : Int) s (s.size : Int) w _ HR1.out.st HR1.out.b0 HK2.out).mono ?_
                  rintro e w9 ⟨rfl, h1, h2, h3⟩
                  have HR3 := Aside0.mk (HR1.out.keep (i1 := s.size) h1 h2 h3)
                  have HR4 := Aside0.mk (Kd.F_keep HR2.out h3 (fun k hk => (by omega : k ≠ g)))
                  clear h1 h2 h3
                  go_wp2_with fail
                  go_roundg 1
                  case measure => omega
                  case rel => exact ⟨.inr ⟨rfl, some ⟨g5, 0, none⟩, cap, hcap, HR3.out, HR4.out⟩⟩
              · skip
                go_simp
                refine hK.out _ _ trivial (fun _ => ?_)
                clear hK K
                try simp only [List.getElem_toArray, List.getElem_cons_succ, List.getElem_cons_zero, Act.put, List.setIfInBounds_toArray, List.set_cons_zero, List.set_cons_succ]
                refine wpAnyH_ready (rs := [7]) (by kernel_rfl) (by simp) ?_
                refine AllReadyH.cons rfl (fun K hK => ?_) AllReadyH.nil
                · skip
                  go_simp
                  refine hK.out _ _ trivial (fun _ => ?_)
                  clear hK K
                  try simp only [List.getElem_toArray, List.getElem_cons_succ, List.getElem_cons_zero, Act.put, List.setIfInBounds_toArray, List.set_cons_zero, List.set_cons_succ]
                  refine wpAnyH_done (by kernel_rfl) ?_ _
                  refine And.intro rfl ?_
                  have HR1 := Aside0.mk HFIN.out.1.1
                  have HR2 := Aside0.mk HFIN.out.1.2
                  clear z0 z1 z2 z3 f0 f1 f2 f3 yp fp HFIN
                  go_wp2_with fail
                  refine (datum_reader_skip.calls k2 g s (s.size : Int) s (s.size : Int) w _ HR1.out.st HR1.out.b0 HK2.out).mono ?_
                  rintro e w9 ⟨rfl, h1, h2, h3⟩
                  have HR3 := Aside0.mk (HR1.out.keep (i1 := s.size) h1 h2 h3)
                  have HR4 := Aside0.mk (Kd.F_keep HR2.out h3 (fun k hk => (by omega : k ≠ g)))
                  clear h1 h2 h3
                  go_wp2_with fail
                  go_roundg 1
                  case measure => omega
                  case rel => exact ⟨.inr ⟨rfl, some ⟨g5, 0, none⟩, cap, hcap, HR3.out, HR4.out⟩⟩
        · skip
          go_simp
          have hb4 := H16.out.st.lt
          have H24 := Aside0.mk (H16.out.alloc (.cells #[.int .i64 0, .string ⟨#[]⟩, .slice none 0 0, .slice none 0 0] 24))
          have B24 := Aside0.mk (blk_new _ _ : (World.alloc w16 (.cells #[.int .i64 0, .string ⟨#[]⟩, .slice none 0 0, .slice none 0 0] 24)).heap[World.heap w16 |>.size]? = _)
          have F24 := Aside0.mk (Kd.FK_below F16.out (below_alloc (Below.refl _ _) (.cells #[.int .i64 0, .string ⟨#[]⟩, .slice none 0 0, .slice none 0 0] 24)))
          refine hK.out _ _ trivial (fun _ => ?_)
          clear hK K
          try simp only [List.getElem_toArray, List.getElem_cons_succ, List.getElem_cons_zero, Act.put, List.setIfInBounds_toArray, List.set_cons_zero, List.set_cons_succ]
          refine wpAnyH_ready (rs := [0]) (by kernel_rfl) (by simp) ?_
          refine AllReadyH.cons rfl (fun K hK => ?_) AllReadyH.nil
          · skip
            have y25 := blk_cell H24.out.pc 0
            simp only [List.getElem?_toArray, List.getElem?_cons_zero] at y25
            go_simp
            refine hK.out _ _ trivial (fun _ => ?_)
            clear hK K y25
            try simp only [List.getElem_toArray, List.getElem_cons_succ, List.getElem_cons_zero, Act.put, List.setIfInBounds_toArray, List.set_cons_zero, List.set_cons_succ]
            refine wpAnyH_take (i := 3) (v := ?_) rfl (by kernel_rfl) (by kernel_rfl) (by kernel_rfl) quietQ (Or.inl ⟨by rfl, ?_⟩) trivial ?_
            rotate_left
            · intro w hSw; (try dsimp only at hSw); go_simp
              all_goals with_reducible rfl
            try simp only [List.getElem_toArray, List.getElem_cons_succ, List.getElem_cons_zero, Act.put, List.setIfInBounds_toArray, List.set_cons_zero, List.set_cons_succ]
            refine wpAnyH_ready (rs := [5]) (by kernel_rfl) (by simp) ?_
            refine AllReadyH.cons rfl (fun K hK => ?_) AllReadyH.nil
            · skip
              obtain ⟨g5, cap, w5, cur, hrun, hcap, hg5, hb5, hcur, hcz⟩ := append_nil (World.alloc w16 (.cells #[.int .i64 0, .string ⟨#[]⟩, .slice none 0 0, .slice none 0 0] 24)) (World.heap w16).size B24.out
              have HRUN := Aside0.mk hrun
              have H5 := Aside0.mk (H24.out.below hb5)
              have hgl := H24.out.st.lt
              have F5 := Aside0.mk (Kd.FK_below (Kd.FK_bound F24.out) hb5)
              have F5' := Aside0.mk (Kd.FK_mono F5.out (fun k hk => (⟨hk.1, by have := hk.2; omega⟩ : g < k ∧ k ≠ g5)))
              have HFIN := Aside0.mk (read_fin H5.out hcur hcz (by omega) cap F5'.out)
              obtain ⟨⟨z0, z1, z2, z3⟩, f0, f1, f2, f3⟩ := blkcur hcur hcz
              have yp := blk_cell H5.out.pc 0
              simp only [List.getElem?_toArray, List.getElem?_cons_zero] at yp
              have fp := blk_frozen H5.out.pc 0
              have hgp : g5 ≠ p := by have := H5.out.qe; have := H5.out.ge; omega
              clear hrun hcur hb5
              rw [if_pos (by rfl)]
              refine oper_append_run (.tmp 20) (.tmp 24) 22 rfl rfl rfl HRUN.out ?_
              refine hK.out _ _ trivial (fun _ => ?_)
              try simp only [List.getElem_toArray, List.getElem_cons_succ, List.getElem_cons_zero, Act.put, List.setIfInBounds_toArray, List.set_cons_zero, List.set_cons_succ]
              clear hK K HRUN
              try simp only [List.getElem_toArray, List.getElem_cons_succ, List.getElem_cons_zero, Act.put, List.setIfInBounds_toArray, List.set_cons_zero, List.set_cons_succ]
              refine wpAnyH_take (i := 6) (v := ?_) rfl (by kernel_rfl) (by kernel_rfl) (by kernel_rfl) quietQ (Or.inl ⟨by rfl, ?_⟩) trivial ?_
              rotate_left
              · intro w hSw; (try dsimp only at hSw); go_simp
                all_goals with_reducible rfl
              try simp only [List.getElem_toArray, List.getElem_cons_succ, List.getElem_cons_zero, Act.put, List.setIfInBounds_toArray, List.set_cons_zero, List.set_cons_succ]
              refine wpAnyH_ready (rs := [7, 8]) (by kernel_rfl) (by simp) ?_
              refine AllReadyH.cons rfl (fun K hK => ?_) (AllReadyH.cons rfl (fun K hK => ?_) AllReadyH.nil)
              · skip
                go_simp
                refine hK.out _ _ trivial (fun _ => ?_)
                clear hK K
                try simp only [List.getElem_toArray, List.getElem_cons_succ, List.getElem_cons_zero, Act.put, List.setIfInBounds_toArray, List.set_cons_zero, List.set_cons_succ]
                refine wpAnyH_ready (rs := [8]) (by kernel_rfl) (by simp) ?_
                refine AllReadyH.cons rfl (fun K hK => ?_) AllReadyH.nil
                · skip
                  go_simp
                  refine hK.out _ _ trivial (fun _ => ?_)
                  clear hK K
                  try simp only [List.getElem_toArray, List.getElem_cons_succ, List.getElem_cons_zero, Act.put, List.setIfInBounds_toArray, List.set_cons_zero, List.set_cons_succ]
                  refine wpAnyH_done (by kernel_rfl) ?_ _
                  refine And.intro rfl ?_
                  have HR1 := Aside0.mk HFIN.out.2.1
                  have HR2 := Aside0.mk HFIN.out.2.2
                  clear z0 z1 z2 z3 f0 f1 f2 f3 yp fp HFIN
                  go_wp2_with fail
                  refine (datum_reader_skip.calls k2 g s (s.size : Int) s (s.size : Int) w _ HR1.out.st HR1.out.b0 HK2.out).mono ?_
                  rintro e w9 ⟨rfl, h1, h2, h3⟩
                  have HR3 := Aside0.mk (HR1.out.keep (i1 := s.size) h1 h2 h3)
                  have HR4 := Aside0.mk (Kd.F_keep HR2.out h3 (fun k hk => (by omega : k ≠ g)))
                  clear h1 h2 h3
                  go_wp2_with fail
                  go_roundg 1
                  case measure => omega
                  case rel => exact ⟨.inr ⟨rfl, some ⟨g5, 0, none⟩, cap, hcap, HR3.out, HR4.out⟩⟩
              · skip
                go_simp
                refine hK.out _ _ trivial (fun _ => ?_)
                clear hK K
                try simp only [List.getElem_toArray, List.getElem_cons_succ, List.getElem_cons_zero, Act.put, List.setIfInBounds_toArray, List.set_cons_zero, List.set_cons_succ]
                refine wpAnyH_ready (rs := [7]) (by kernel_rfl) (by simp) ?_
                refine AllReadyH.cons rfl (fun K hK => ?_) AllReadyH.nil
                · skip
                  go_simp
                  refine hK.out _ _ trivial (fun _ => ?_)
                  clear hK K
                  try simp only [List.getElem_toArray, List.getElem_cons_succ, List.getElem_cons_zero, Act.put, List.setIfInBounds_toArray, List.set_cons_zero, List.set_cons_succ]
                  refine wpAnyH_done (by kernel_rfl) ?_ _
                  refine And.intro rfl ?_
                  have HR1 := Aside0.mk HFIN.out.1.1
                  have HR2 := Aside0.mk HFIN.out.1.2
                  clear z0 z1 z2 z3 f0 f1 f2 f3 yp fp HFIN
                  go_wp2_with fail
                  refine (datum_reader_skip.calls k2 g s (s.size : Int) s (s.size : Int) w _ HR1.out.st HR1.out.b0 HK2.out).mono ?_
                  rintro e w9 ⟨rfl, h1, h2, h3⟩
                  have HR3 := Aside0.mk (HR1.out.keep (i1 := s.size) h1 h2 h3)
                  have HR4 := Aside0.mk (Kd.F_keep HR2.out h3 (fun k hk => (by omega : k ≠ g)))
                  clear h1 h2 h3
                  go_wp2_with fail
                  go_roundg 1
                  case measure => omega
                  case rel => exact ⟨.inr ⟨rfl, some ⟨g5, 0, none⟩, cap, hcap, HR3.out, HR4.out⟩⟩
      · skip
        go_simp
        have hb4 := HSD.out.st.lt
        have H31 := Aside0.mk (HSD.out.alloc (.cells #[.int .i64 0, .string ⟨#[]⟩, .slice none 0 0, .slice none 0 0] 24))
        have B31 := Aside0.mk (blk_new _ _ : (World.alloc W0 (.cells #[.int .i64 0, .string ⟨#[]⟩, .slice none 0 0, .slice none 0 0] 24)).heap[World.heap W0 |>.size]? = _)
        refine hK.out _ _ trivial (fun _ => ?_)
        clear hK K
        try simp only [List.getElem_toArray, List.getElem_cons_succ, List.getElem_cons_zero, Act.put, List.setIfInBounds_toArray, List.set_cons_zero, List.set_cons_succ]
        refine wpAnyH_ready (rs := [0, 2]) (by kernel_rfl) (by simp) ?_
        refine AllReadyH.cons rfl (fun K hK => ?_) (AllReadyH.cons rfl (fun K hK => ?_) AllReadyH.nil)
        · skip
          have y32 := blk_cell H31.out.pc 0
          simp only [List.getElem?_toArray, List.getElem?_cons_zero] at y32
          go_simp
          refine hK.out _ _ trivial (fun _ => ?_)
          clear hK K y32
          try simp only [List.getElem_toArray, List.getElem_cons_succ, List.getElem_cons_zero, Act.put, List.setIfInBounds_toArray, List.set_cons_zero, List.set_cons_succ]
          refine wpAnyH_take (i := 3) (v := ?_) rfl (by kernel_rfl) (by kernel_rfl) (by kernel_rfl) quietQ (Or.inl ⟨by rfl, ?_⟩) trivial ?_
          rotate_left
          · intro w hSw; (try dsimp only at hSw); go_simp
            all_goals with_reducible rfl
          try simp only [List.getElem_toArray, List.getElem_cons_succ, List.getElem_cons_zero, Act.put, List.setIfInBounds_toArray, List.set_cons_zero, List.set_cons_succ]
          refine wpAnyH_ready (rs := [2]) (by kernel_rfl) (by simp) ?_
          refine AllReadyH.cons rfl (fun K hK => ?_) AllReadyH.nil
          · skip
            go_simp
            go_at_call 16
            refine ((reads_at n).1 0 g s 0 x [] w _ hs (by omega) (by omega) HX.out H31.out.st H31.out.b0).mono ?_
            rintro e w33 ⟨A2_, d2_, A3_, d3_, rfl, hfk, h1, h2, h3⟩
            have H33 := Aside0.mk (H31.out.keep (i1 := s.size) (by simpa using h1) h2 h3)
            have hgW := H31.out.st.lt
            have F33 := Aside0.mk (Kd.FK_mono hfk (fun k hk => (by omega : g < k)))
            have B33 := Aside0.mk ((h3.2 _ (blk_lt B31.out) (by omega) (by simp)).trans B31.out)
            refine hK.out _ _ trivial (fun _ => ?_)
            clear hK K h1 h2 h3 hfk hgW
            try simp only [List.getElem_toArray, List.getElem_cons_succ, List.getElem_cons_zero, Act.put, List.setIfInBounds_toArray, List.set_cons_zero, List.set_cons_succ]
            refine wpAnyH_ready (rs := [5]) (by kernel_rfl) (by simp) ?_
            refine AllReadyH.cons rfl (fun K hK => ?_) AllReadyH.nil
            · skip
              obtain ⟨g5, cap, w5, cur, hrun, hcap, hg5, hb5, hcur, hcz⟩ := append_nil w33 (World.heap W0).size B33.out
              have HRUN := Aside0.mk hrun
              have H5 := Aside0.mk (H33.out.below hb5)
              have hgl := H33.out.st.lt
              have F5 := Aside0.mk (Kd.FK_below (Kd.FK_bound F33.out) hb5)
              have F5' := Aside0.mk (Kd.FK_mono F5.out (fun k hk => (⟨hk.1, by have := hk.2; omega⟩ : g < k ∧ k ≠ g5)))
              have HFIN := Aside0.mk (read_fin H5.out hcur hcz (by omega) cap F5'.out)
              obtain ⟨⟨z0, z1, z2, z3⟩, f0, f1, f2, f3⟩ := blkcur hcur hcz
              have yp := blk_cell H5.out.pc 0
              simp only [List.getElem?_toArray, List.getElem?_cons_zero] at yp
              have fp := blk_frozen H5.out.pc 0
              have hgp : g5 ≠ p := by have := H5.out.qe; have := H5.out.ge; omega
              clear hrun hcur hb5
              rw [if_pos (by rfl)]
              refine oper_append_run (.tmp 20) (.tmp 24) 22 rfl rfl rfl HRUN.out ?_
              refine hK.out _ _ trivial (fun _ => ?_)
              try simp only [List.getElem_toArray, List.getElem_cons_succ, List.getElem_cons_zero, Act.put, List.setIfInBounds_toArray, List.set_cons_zero, List.set_cons_succ]
              clear hK K HRUN
              try simp only [List.getElem_toArray, List.getElem_cons_succ, List.getElem_cons_zero, Act.put, List.setIfInBounds_toArray, List.set_cons_zero, List.set_cons_succ]
              refine wpAnyH_take (i := 6) (v := ?_) rfl (by kernel_rfl) (by kernel_rfl) (by kernel_rfl) quietQ (Or.inl ⟨by rfl, ?_⟩) trivial ?_
              rotate_left
              · intro w hSw; (try dsimp only at hSw); go_simp
                all_goals with_reducible rfl
              try simp only [List.getElem_toArray, List.getElem_cons_succ, List.getElem_cons_zero, Act.put, List.setIfInBounds_toArray, List.set_cons_zero, List.set_cons_succ]
              refine wpAnyH_ready (rs := [7, 8]) (by kernel_rfl) (by simp) ?_
              refine AllReadyH.cons rfl (fun K hK => ?_) (AllReadyH.cons rfl (fun K hK => ?_) AllReadyH.nil)
              · skip
                go_simp
                refine hK.out _ _ trivial (fun _ => ?_)
                clear hK K
                try simp only [List.getElem_toArray, List.getElem_cons_succ, List.getElem_cons_zero, Act.put, List.setIfInBounds_toArray, List.set_cons_zero, List.set_cons_succ]
                refine wpAnyH_ready (rs := [8]) (by kernel_rfl) (by simp) ?_
                refine AllReadyH.cons rfl (fun K hK => ?_) AllReadyH.nil
                · skip
                  go_simp
                  refine hK.out _ _ trivial (fun _ => ?_)
                  clear hK K
                  try simp only [List.getElem_toArray, List.getElem_cons_succ, List.getElem_cons_zero, Act.put, List.setIfInBounds_toArray, List.set_cons_zero, List.set_cons_succ]
                  refine wpAnyH_done (by kernel_rfl) ?_ _
                  refine And.intro rfl ?_
                  have HR1 := Aside0.mk HFIN.out.2.1
                  have HR2 := Aside0.mk HFIN.out.2.2
                  clear z0 z1 z2 z3 f0 f1 f2 f3 yp fp HFIN
                  go_wp2_with fail
                  refine (datum_reader_skip.calls k2 g s (s.size : Int) s (s.size : Int) w _ HR1.out.st HR1.out.b0 HK2.out).mono ?_
                  rintro e w9 ⟨rfl, h1, h2, h3⟩
                  have HR3 := Aside0.mk (HR1.out.keep (i1 := s.size) h1 h2 h3)
                  have HR4 := Aside0.mk (Kd.F_keep HR2.out h3 (fun k hk => (by omega : k ≠ g)))
                  clear h1 h2 h3
                  go_wp2_with fail
                  go_roundg 1
                  case measure => omega
                  case rel => exact ⟨.inr ⟨rfl, some ⟨g5, 0, none⟩, cap, hcap, HR3.out, HR4.out⟩⟩
              · skip
                go_simp
                refine hK.out _ _ trivial (fun _ => ?_)
                clear hK K
                try simp only [List.getElem_toArray, List.getElem_cons_succ, List.getElem_cons_zero, Act.put, List.setIfInBounds_toArray, List.set_cons_zero, List.set_cons_succ]
                refine wpAnyH_ready (rs := [7]) (by kernel_rfl) (by simp) ?_
                refine AllReadyH.cons rfl (fun K hK => ?_) AllReadyH.nil
                · skip
                  go_simp
                  refine hK.out _ _ trivial (fun _ => ?_)
                  clear hK K
                  try simp only [List.getElem_toArray, List.getElem_cons_succ, List.getElem_cons_zero, Act.put, List.setIfInBounds_toArray, List.set_cons_zero, List.set_cons_succ]
                  refine wpAnyH_done (by kernel_rfl) ?_ _
                  refine And.intro rfl ?_
                  have HR1 := Aside0.mk HFIN.out.1.1
                  have HR2 := Aside0.mk HFIN.out.1.2
                  clear z0 z1 z2 z3 f0 f1 f2 f3 yp fp HFIN
                  go_wp2_with fail
                  refine (datum_reader_skip.calls k2 g s (s.size : Int) s (s.size : Int) w _ HR1.out.st HR1.out.b0 HK2.out).mono ?_
                  rintro e w9 ⟨rfl, h1, h2, h3⟩
                  have HR3 := Aside0.mk (HR1.out.keep (i1 := s.size) h1 h2 h3)
                  have HR4 := Aside0.mk (Kd.F_keep HR2.out h3 (fun k hk => (by omega : k ≠ g)))
                  clear h1 h2 h3
                  go_wp2_with fail
                  go_roundg 1
                  case measure => omega
                  case rel => exact ⟨.inr ⟨rfl, some ⟨g5, 0, none⟩, cap, hcap, HR3.out, HR4.out⟩⟩
        · skip
          go_simp
          go_at_call 16
          refine ((reads_at n).1 0 g s 0 x [] w _ hs (by omega) (by omega) HX.out H31.out.st H31.out.b0).mono ?_
          rintro e w39 ⟨A2_, d2_, A3_, d3_, rfl, hfk, h1, h2, h3⟩
          have H39 := Aside0.mk (H31.out.keep (i1 := s.size) (by simpa using h1) h2 h3)
          have hgW := H31.out.st.lt
          have F39 := Aside0.mk (Kd.FK_mono hfk (fun k hk => (by omega : g < k)))
          have B39 := Aside0.mk ((h3.2 _ (blk_lt B31.out) (by omega) (by simp)).trans B31.out)
          refine hK.out _ _ trivial (fun _ => ?_)
          clear hK K h1 h2 h3 hfk hgW
          try simp only [List.getElem_toArray, List.getElem_cons_succ, List.getElem_cons_zero, Act.put, List.setIfInBounds_toArray, List.set_cons_zero, List.set_cons_succ]
          refine wpAnyH_ready (rs := [0]) (by kernel_rfl) (by simp) ?_
          refine AllReadyH.cons rfl (fun K hK => ?_) AllReadyH.nil
          · skip
            have y40 := blk_cell H39.out.pc 0
            simp only [List.getElem?_toArray, List.getElem?_cons_zero] at y40
            go_simp
            refine hK.out _ _ trivial (fun _ => ?_)
            clear hK K y40
            try simp only [List.getElem_toArray, List.getElem_cons_succ, List.getElem_cons_zero, Act.put, List.setIfInBounds_toArray, List.set_cons_zero, List.set_cons_succ]
            refine wpAnyH_take (i := 3) (v := ?_) rfl (by kernel_rfl) (by kernel_rfl) (by kernel_rfl) quietQ (Or.inl ⟨by rfl, ?_⟩) trivial ?_
            rotate_left
            · intro w hSw; (try dsimp only at hSw); go_simp
              all_goals with_reducible rfl
            try simp only [List.getElem_toArray, List.getElem_cons_succ, List.getElem_cons_zero, Act.put, List.setIfInBounds_toArray, List.set_cons_zero, List.set_cons_succ]
            refine wpAnyH_ready (rs := [5]) (by kernel_rfl) (by simp) ?_
            refine AllReadyH.cons rfl (fun K hK => ?_) AllReadyH.nil
            · skip
              obtain ⟨g5, cap, w5, cur, hrun, hcap, hg5, hb5, hcur, hcz⟩ := append_nil w39 (World.heap W0).size B39.out
              have HRUN := Aside0.mk hrun
              have H5 := Aside0.mk (H39.out.below hb5)
              have hgl := H39.out.st.lt
              have F5 := Aside0.mk (Kd.FK_below (Kd.FK_bound F39.out) hb5)
              have F5' := Aside0.mk (Kd.FK_mono F5.out (fun k hk => (⟨hk.1, by have := hk.2; omega⟩ : g < k ∧ k ≠ g5)))
              have HFIN := Aside0.mk (read_fin H5.out hcur hcz (by omega) cap F5'.out)
              obtain ⟨⟨z0, z1, z2, z3⟩, f0, f1, f2, f3⟩ := blkcur hcur hcz
              have yp := blk_cell H5.out.pc 0
              simp only [List.getElem?_toArray, List.getElem?_cons_zero] at yp
              have fp := blk_frozen H5.out.pc 0
              have hgp : g5 ≠ p := by have := H5.out.qe; have := H5.out.ge; omega
              clear hrun hcur hb5
              rw [if_pos (by rfl)]
              refine oper_append_run (.tmp 20) (.tmp 24) 22 rfl rfl rfl HRUN.out ?_
              refine hK.out _ _ trivial (fun _ => ?_)
              try simp only [List.getElem_toArray, List.getElem_cons_succ, List.getElem_cons_zero, Act.put, List.setIfInBounds_toArray, List.set_cons_zero, List.set_cons_succ]
              clear hK K HRUN
              try simp only [List.getElem_toArray, List.getElem_cons_succ, List.getElem_cons_zero, Act.put, List.setIfInBounds_toArray, List.set_cons_zero, List.set_cons_succ]
              refine wpAnyH_take (i := 6) (v := ?_) rfl (by kernel_rfl) (by kernel_rfl) (by kernel_rfl) quietQ (Or.inl ⟨by rfl, ?_⟩) trivial ?_
              rotate_left
              · intro w hSw; (try dsimp only at hSw); go_simp
                all_goals with_reducible rfl
              try simp only [List.getElem_toArray, List.getElem_cons_succ, List.getElem_cons_zero, Act.put, List.setIfInBounds_toArray, List.set_cons_zero, List.set_cons_succ]
              refine wpAnyH_ready (rs := [7, 8]) (by kernel_rfl) (by simp) ?_
              refine AllReadyH.cons rfl (fun K hK => ?_) (AllReadyH.cons rfl (fun K hK => ?_) AllReadyH.nil)
              · skip
                go_simp
                refine hK.out _ _ trivial (fun _ => ?_)
                clear hK K
                try simp only [List.getElem_toArray, List.getElem_cons_succ, List.getElem_cons_zero, Act.put, List.setIfInBounds_toArray, List.set_cons_zero, List.set_cons_succ]
                refine wpAnyH_ready (rs := [8]) (by kernel_rfl) (by simp) ?_
                refine AllReadyH.cons rfl (fun K hK => ?_) AllReadyH.nil
                · skip
                  go_simp
                  refine hK.out _ _ trivial (fun _ => ?_)
                  clear hK K
                  try simp only [List.getElem_toArray, List.getElem_cons_succ, List.getElem_cons_zero, Act.put, List.setIfInBounds_toArray, List.set_cons_zero, List.set_cons_succ]
                  refine wpAnyH_done (by kernel_rfl) ?_ _
                  refine And.intro rfl ?_
                  have HR1 := Aside0.mk HFIN.out.2.1
                  have HR2 := Aside0.mk HFIN.out.2.2
                  clear z0 z1 z2 z3 f0 f1 f2 f3 yp fp HFIN
                  go_wp2_with fail
                  refine (datum_reader_skip.calls k2 g s (s.size : Int) s (s.size : Int) w _ HR1.out.st HR1.out.b0 HK2.out).mono ?_
                  rintro e w9 ⟨rfl, h1, h2, h3⟩
                  have HR3 := Aside0.mk (HR1.out.keep (i1 := s.size) h1 h2 h3)
                  have HR4 := Aside0.mk (Kd.F_keep HR2.out h3 (fun k hk => (by omega : k ≠ g)))
                  clear h1 h2 h3
                  go_wp2_with fail
                  go_roundg 1
                  case measure => omega
                  case rel => exact ⟨.inr ⟨rfl, some ⟨g5, 0, none⟩, cap, hcap, HR3.out, HR4.out⟩⟩
              · skip
                go_simp
                refine hK.out _ _ trivial (fun _ => ?_)
                clear hK K
                try simp only [List.getElem_toArray, List.getElem_cons_succ, List.getElem_cons_zero, Act.put, List.setIfInBounds_toArray, List.set_cons_zero, List.set_cons_succ]
                refine wpAnyH_ready (rs := [7]) (by kernel_rfl) (by simp) ?_
                refine AllReadyH.cons rfl (fun K hK => ?_) AllReadyH.nil
                · skip
                  go_simp
                  refine hK.out _ _ trivial (fun _ => ?_)
                  clear hK K
                  try simp only [List.getElem_toArray, List.getElem_cons_succ, List.getElem_cons_zero, Act.put, List.setIfInBounds_toArray, List.set_cons_zero, List.set_cons_succ]
                  refine wpAnyH_done (by kernel_rfl) ?_ _
                  refine And.intro rfl ?_
                  have HR1 := Aside0.mk HFIN.out.1.1
                  have HR2 := Aside0.mk HFIN.out.1.2
                  clear z0 z1 z2 z3 f0 f1 f2 f3 yp fp HFIN
                  go_wp2_with fail
                  refine (datum_reader_skip.calls k2 g s (s.size : Int) s (s.size : Int) w _ HR1.out.st HR1.out.b0 HK2.out).mono ?_
                  rintro e w9 ⟨rfl, h1, h2, h3⟩
                  have HR3 := Aside0.mk (HR1.out.keep (i1 := s.size) h1 h2 h3)
                  have HR4 := Aside0.mk (Kd.F_keep HR2.out h3 (fun k hk => (by omega : k ≠ g)))
                  clear h1 h2 h3
                  go_wp2_with fail
                  go_roundg 1
                  case measure => omega
                  case rel => exact ⟨.inr ⟨rfl, some ⟨g5, 0, none⟩, cap, hcap, HR3.out, HR4.out⟩⟩
    · obtain ⟨x0, x1, x2⟩ := hS.st.cells
      have hltb : decide ((s.size : Int) < (s.size : Int)) = false := decide_eq_false (by omega)
      have y0 : wr.cell? ⟨p, 0, none⟩ = some (.slice A 1 c) := blk_cell hS.pc 0
      have y1 : wr.frozen? ⟨p, 0, none⟩ = false := blk_frozen hS.pc 0
      have HS2 := Aside0.mk (hS.set (.slice A 1 c))
      have z0 : (wr.setCell ⟨p, 0, none⟩ (.slice A 1 c)).cell? ⟨q, 0, none⟩ = some .nilIface := blk_cell HS2.out.qc 0
      have z1 : (wr.setCell ⟨p, 0, none⟩ (.slice A 1 c)).frozen? ⟨q, 0, none⟩ = false := blk_frozen HS2.out.qc 0
      have hpg : p < g ∧ q < g ∧ p ≠ q := ⟨by have := hS.qe; have := hS.ge; omega, by have := hS.ge; omega, by have := hS.qe; omega⟩
      have HF2 := Aside0.mk (Kd.F_far (Kd.F_far hF (p := ⟨p, 0, none⟩) (fun k hk => by show k ≠ p; omega) (.slice A 1 c)) (p := ⟨q, 0, none⟩) (fun k hk => by show k ≠ q; omega) .nilIface)
      have HP := Aside0.mk hpg
      clear hS hF hpg
      go_wp2_with fail
      refine door_ok _ Tryd.results7 _ p q rfl rfl _ (.slice A 1 c) .nilIface (blk_far HS2.out.pc HP.out.2.2 _) (blk_set HS2.out.qc 0 _) _ ?_
      exact ⟨A, c, rfl, hc, Kd.F_now HF2.out, HS2.out.b0.setCell (p := ⟨q, 0, none⟩) (by have := HS2.out.pe; have := HS2.out.qe; show w.heap.size ≤ q; omega) _⟩
end Go.Proofs.YtjphkokfleoinaaDoor.D
