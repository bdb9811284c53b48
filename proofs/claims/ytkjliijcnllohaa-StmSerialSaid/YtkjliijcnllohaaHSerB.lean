/- stm: StmSerial: all that lies in memory, what a call leaves of it, and what the law keeps to be true. -/
import Derived.Test.YtkjliijcnllohaaHSer2
import Derived.Test.YtkjliijcnllohaaHSer0
namespace Go.Proofs.Ytkjliijcnllohaa.S
open Go.RowKit Go.Proofs.YtkjliijcnllohaaW.PrintWords Go.Proofs.YtkjliijcnllohaaW.PrintLast Go.Proofs.YtkjliijcnllohaaW.PrintMore
set_option linter.unusedVariables false
set_option linter.unusedSimpArgs false
/-- A transaction that was seen: its blocks, what it holds, what it read, what all slots had when it began. -/
structure Sn where
  q : Nat
  t : Nat
  br : Nat
  bw : Nat
  rb : Nat
  gb : Nat
  time : Int
  phase : Int
  mr : List (ByteArray × Value)
  m : List (ByteArray × Value)
  Rm : List (ByteArray × Value)
  Gm : List (ByteArray × Value)
  wb : ByteArray → List Int
  rv : ByteArray → List Int
  B : ByteArray → List Int
def Sn.maps (x : Sn) : List Nat := [x.br, x.bw, x.rb, x.gb]
def Sn.obj (x : Sn) : Obj := .cells #[ptr x.t, .map (some x.rb), .map (some x.gb)] 54 (0, 0)
/-- .. in memory. -/
structure SnIs (w0 w : World) (s bm : Nat) (x : Sn) : Prop where
  tx : TxSt w0 w s bm x.t x.br x.bw x.time x.phase x.mr x.m
  sn : w.heap[x.q]? = some x.obj
  rm : MapIs w x.rb x.Rm
  gm : MapIs w x.gb x.Gm
  rw_ : RowsOf w x.m x.wb
  rr : RowsOf w x.Rm x.rv
  rg : RowsOf w x.Gm x.B
  ne : x.rb ≠ bm ∧ x.gb ≠ bm ∧ x.rb ≠ x.gb ∧ x.rb ≠ x.br ∧ x.rb ≠ x.bw ∧ x.gb ≠ x.br ∧ x.gb ≠ x.bw
  lo : w0.heap.size ≤ x.rb
def ApS (x y : Sn) : Prop := x.t ≠ y.t ∧ ∀ a ∈ x.maps, a ∉ y.maps
theorem ApS.apart {x y : Sn} (h : ApS x y) : Apart x.t x.br x.bw y.t y.br y.bw := by
  obtain ⟨h1, h2⟩ := h
  simp only [Sn.maps, List.mem_cons, List.not_mem_nil, or_false, forall_eq_or_imp, forall_eq, not_or] at h2
  exact ⟨h1, h2.1.1, h2.1.2.1, h2.2.1.1, h2.2.1.2.1⟩
theorem ApS.of {x y : Sn} (h : ApS x y) : y.rb ≠ x.br ∧ y.rb ≠ x.bw ∧ y.rb ≠ x.rb ∧ y.gb ≠ x.br ∧ y.gb ≠ x.bw ∧ y.gb ≠ x.rb ∧ y.br ≠ x.rb ∧ y.bw ≠ x.rb := by
  obtain ⟨h1, h2⟩ := h
  simp only [Sn.maps, List.mem_cons, List.not_mem_nil, or_false, forall_eq_or_imp, forall_eq, not_or] at h2
  obtain ⟨⟨a1, a2, a3, a4⟩, ⟨b1, b2, b3, b4⟩, ⟨c1, c2, c3, c4⟩, d1, d2, d3, d4⟩ := h2
  exact ⟨fun e => a3 e.symm, fun e => b3 e.symm, fun e => c3 e.symm, fun e => a4 e.symm, fun e => b4 e.symm, fun e => c4 e.symm, fun e => c1 e.symm, fun e => c2 e.symm⟩
/-- All cells but a space's, a slot's, a transaction's are as they were. -/
structure Fq (w w' : World) : Prop where
  size : w.heap.size ≤ w'.heap.size
  keep : ∀ (k : Nat) (c : Array Value) (ty : TypeId) (fz : Nat × Nat), w.heap[k]? = some (.cells c ty fz) → ty ≠ 63 → ty ≠ 67 → ty ≠ 82 → w'.heap[k]? = some (.cells c ty fz)
theorem Fq.refl (w : World) : Fq w w := ⟨Nat.le_refl _, fun _ _ _ _ h _ _ _ => h⟩
theorem Fq.trans {a b c : World} (h : Fq a b) (k : Fq b c) : Fq a c := ⟨Nat.le_trans h.size k.size, fun i x ty fz hi h1 h2 h3 => k.keep i x ty fz (h.keep i x ty fz hi h1 h2 h3) h1 h2 h3⟩
theorem Fq.ofBelow {w w' : World} (h : Below w.heap.size w w') : Fq w w' := ⟨h.size, fun k c ty fz hk _ _ _ => (h.block k (blk_lt hk)).trans hk⟩
section
variable {w0 w w' : World} {s bm t br bw : Nat} {clock clock' time phase : Int} {S S' : List Ent} {mr m : List (ByteArray × Value)} {T : List Nat}
theorem tch_map (hS : SpAt w s bm clock S) (hx : TxIs w s bm t br bw time phase mr m) {b : Nat} {mm : List (ByteArray × Value)} (hm : MapIs w b mm) (n1 : b ≠ bm) (n2 : b ≠ br) (n3 : b ≠ bw) : b ∉ Tch s bm t br bw S := by
  simp only [Tch, List.mem_cons, not_or]
  exact ⟨fun e => sp_ne_map hS hm e.symm, n1, n2, n3, fun e => hx.tx.ne_map hm e.symm, fun hm' => by
    obtain ⟨x, hx', e⟩ := List.mem_map.1 hm'
    exact g_ne_map hS hx' hm e⟩
theorem tch_cells (hS : SpAt w s bm clock S) (hx : TxIs w s bm t br bw time phase mr m) {k : Nat} {c : Array Value} {ty : TypeId} {fz : Nat × Nat} (hk : w.heap[k]? = some (.cells c ty fz)) (h1 : ty ≠ 63) (h2 : ty ≠ 67) (h3 : ty ≠ 82) : k ∉ Tch s bm t br bw S := by
  have hc : ∀ {j : Nat} {c' : Array Value} {ty' : TypeId} {fz' : Nat × Nat}, w.heap[j]? = some (.cells c' ty' fz') → k = j → ty = ty' := fun hj e => by
    subst e
    rw [hk] at hj
    simp only [Option.some.injEq, Obj.cells.injEq] at hj
    exact hj.2.1
  simp only [Tch, List.mem_cons, not_or]
  refine ⟨fun e => h1 (hc hS.sp e), fun e => ?_, fun e => ?_, fun e => ?_, fun e => h2 (hc hx.tx e), fun hm => ?_⟩
  · exact hS.mp.norow c ty fz (by rw [← e]; exact hk)
  · exact hx.rd.norow c ty fz (by rw [← e]; exact hk)
  · exact hx.wr.norow c ty fz (by rw [← e]; exact hk)
  · obtain ⟨x, hx', e⟩ := List.mem_map.1 hm
    exact h3 (hc (hS.slot x hx') e.symm)
theorem Fq.tch (hS : SpAt w s bm clock S) (hx : TxIs w s bm t br bw time phase mr m) (hf : Fr (Tch s bm t br bw S) w w') : Fq w w' :=
  ⟨hf.size, fun k c ty fz hk h1 h2 h3 => hf.get hk (tch_cells hS hx hk h1 h2 h3)⟩
theorem Fq.map {b : Nat} {mm : List (ByteArray × Value)} (hm : MapIs w b mm) (hf : Fr [b] w w') : Fq w w' :=
  ⟨hf.size, fun k c ty fz hk _ _ _ => hf.get hk (fun e => by
    obtain rfl := List.mem_singleton.1 e
    exact hm.norow c ty fz hk)⟩
theorem TxSt.frT (h : TxSt w0 w s bm t br bw time phase mr m) (hf : Fr T w w') (ht : t ∉ T) (hr : br ∉ T) (hw : bw ∉ T) : TxSt w0 w' s bm t br bw time phase mr m :=
  ⟨⟨h.1.tx.fr hf ht, h.1.rd.fr hf hr, h.1.wr.fr hf hw, h.1.ne⟩, h.2⟩
theorem SnIs.frT {x : Sn} (h : SnIs w0 w s bm x) (hf : Fr T w w') (htx : TxSt w0 w' s bm x.t x.br x.bw x.time x.phase x.mr x.m) (hq : x.q ∉ T) (hr : x.rb ∉ T) (hg : x.gb ∉ T) : SnIs w0 w' s bm x :=
  ⟨htx, hf.get h.sn hq, h.rm.fr hf hr, h.gm.fr hf hg, h.rw_.fr hf, h.rr.fr hf, h.rg.fr hf, h.ne, h.lo⟩
theorem SnIs.fr0 {x : Sn} (h : SnIs w0 w s bm x) (hf : Fr [] w w') : SnIs w0 w' s bm x := h.frT hf (h.tx.step0 hf) (by simp) (by simp) (by simp)
end
theorem qset_at (Q : List Sn) (i : Nat) (x' : Sn) (j : Nat) (hj : j < (Q.set i x').length) : (Q.set i x')[j] = if i = j then x' else Q[j]'(by simpa using hj) := List.getElem_set ..
/-- All that the law has in memory. -/
structure Mem (w0 w : World) (s bm : Nat) (clock : Int) (S : List Ent) (Q : List Sn) (v5 : Value) (mb lb : Nat) (Mm Lm : List (ByteArray × Value)) (mv : ByteArray → List Int) : Prop where
  st : LawSt w0 w s bm clock S
  sn : ∀ j (h : j < Q.length), SnIs w0 w s bm Q[j]
  ap : ∀ j k (hj : j < Q.length) (hk : k < Q.length), j ≠ k → ApS Q[j] Q[k]
  mm : MapIs w mb Mm
  lm : MapIs w lb Lm
  mr : RowsOf w Mm mv
  ne : mb ≠ bm ∧ lb ≠ bm ∧ mb ≠ lb
  nq : ∀ j (h : j < Q.length), mb ∉ Q[j].maps ∧ lb ∉ Q[j].maps
  lo : w0.heap.size ≤ mb ∧ w0.heap.size ≤ lb
  ps : w.ownsRow w0.heap.size 51 1 v5 Q.length (Q.map fun x => ptr x.q)
section
variable {w0 w w' : World} {s bm mb lb : Nat} {clock clock' : Int} {S S' : List Ent} {Q : List Sn} {v5 : Value} {Mm Lm : List (ByteArray × Value)} {mv : ByteArray → List Int} {X : ByteArray → Prop}
theorem ps_fq {base n : Nat} {v : Value} {xs : List Value} (h : w.ownsRow base 51 1 v n xs) (hf : Fq w w') : w'.ownsRow base 51 1 v n xs := by
  refine ⟨h.1, ?_⟩
  rcases h.2 with h | ⟨g, cap, cur, h1, h2, h3, h4⟩
  · exact .inl h
  · exact .inr ⟨g, cap, cur, h1, h2, hf.keep _ _ _ _ h3 (by decide) (by decide) (by decide), h4⟩
/-- A call of a transaction. -/
theorem Mem.call (H : Mem w0 w s bm clock S Q v5 mb lb Mm Lm mv) {i : Nat} (hi : i < Q.length) {phase' : Int} {mr' m' : List (ByteArray × Value)} {wb' : ByteArray → List Int} (hf : Fr (Tch s bm Q[i].t Q[i].br Q[i].bw S) w w') (hS : SpAt w' s bm clock' S') (hL : Later X w S S') (hx : TxIs w' s bm Q[i].t Q[i].br Q[i].bw Q[i].time phase' mr' m') (hr : RowsOf w' m' wb') :
    Mem w0 w' s bm clock' S' (Q.set i { Q[i] with phase := phase', mr := mr', m := m', wb := wb' }) v5 mb lb Mm Lm mv ∧ Fq w w' := by
  have hi' := H.sn i hi
  have hsp := H.st.sp
  have hfq := Fq.tch hsp hi'.tx.1 hf
  have hnm : ∀ {b : Nat} {mm : List (ByteArray × Value)}, MapIs w b mm → b ≠ bm → b ≠ Q[i].br → b ≠ Q[i].bw → b ∉ Tch s bm Q[i].t Q[i].br Q[i].bw S := fun hm n1 n2 n3 => tch_map hsp hi'.tx.1 hm n1 n2 n3
  have hnq := H.nq i hi
  simp only [Sn.maps, List.mem_cons, List.not_mem_nil, or_false, not_or] at hnq
  refine ⟨⟨H.st.step hi'.tx hf hS hL, fun j hj => ?_, fun j k hj hk hjk => ?_, H.mm.fr hf (hnm H.mm H.ne.1 hnq.1.1 hnq.1.2.1), H.lm.fr hf (hnm H.lm H.ne.2.1 hnq.2.1 hnq.2.2.1), H.mr.fr hf, H.ne, fun j hj => ?_, H.lo, ?_⟩, hfq⟩
  · rw [qset_at]
    split
    · exact ⟨⟨hx, hi'.tx.2⟩, hfq.keep _ _ _ _ hi'.sn (by decide) (by decide) (by decide), hi'.rm.fr hf (hnm hi'.rm hi'.ne.1 hi'.ne.2.2.2.1 hi'.ne.2.2.2.2.1), hi'.gm.fr hf (hnm hi'.gm hi'.ne.2.1 hi'.ne.2.2.2.2.2.1 hi'.ne.2.2.2.2.2.2), hr, hi'.rr.fr hf, hi'.rg.fr hf, hi'.ne, hi'.lo⟩
    · rename_i hij
      have hjl : j < Q.length := by simpa using hj
      have hj' := H.sn j hjl
      have ha := H.ap i j hi hjl hij
      have ho := ha.of
      exact hj'.frT hf (hj'.tx.keep H.st hi'.tx ha.apart hf) (tch_cells hsp hi'.tx.1 hj'.sn (by decide) (by decide) (by decide)) (hnm hj'.rm hj'.ne.1 ho.1 ho.2.1) (hnm hj'.gm hj'.ne.2.1 ho.2.2.2.1 ho.2.2.2.2.1)
  · have hjl : j < Q.length := by simpa using hj
    have hkl : k < Q.length := by simpa using hk
    rw [qset_at, qset_at]
    split
    · rename_i e1
      subst e1
      rw [if_neg hjk]
      exact H.ap i k hi hkl hjk
    · split
      · rename_i e1 e2
        subst e2
        exact H.ap j i hjl hi hjk
      · exact H.ap j k hjl hkl hjk
  · have hjl : j < Q.length := by simpa using hj
    rw [qset_at]
    split
    · exact H.nq i hi
    · exact H.nq j hjl
  · have h1 := ps_fq H.ps hfq
    have h2 : (Q.set i { Q[i] with phase := phase', mr := mr', m := m', wb := wb' }).map (fun x => ptr x.q) = Q.map fun x => ptr x.q := by
      rw [List.map_set]
      show (Q.map fun x => ptr x.q).set i (ptr Q[i].q) = _
      have : (Q.map fun x => ptr x.q)[i]'(by simpa using hi) = ptr Q[i].q := by simp
      rw [← this, List.set_getElem_self]
    rw [h2, List.length_set]
    exact h1
/-- Fresh memory. -/
theorem Mem.new (H : Mem w0 w s bm clock S Q v5 mb lb Mm Lm mv) (hb : Below w.heap.size w w') : Mem w0 w' s bm clock S Q v5 mb lb Mm Lm mv := by
  have hf := Fr.ofBelow hb []
  exact ⟨H.st.step0 hf, fun j hj => (H.sn j hj).fr0 hf, H.ap, H.mm.fr hf (by simp), H.lm.fr hf (by simp), H.mr.fr hf, H.ne, H.nq, H.lo, ps_fq H.ps (Fq.ofBelow hb)⟩
theorem Mem.fr0 (H : Mem w0 w s bm clock S Q v5 mb lb Mm Lm mv) (hf : Fr [] w w') : Mem w0 w' s bm clock S Q v5 mb lb Mm Lm mv := H.new (hf.below (Nat.le_refl _) (fun k hk => by simp at hk))
/-- The map of what it read is turned. -/
theorem Mem.readMap (H : Mem w0 w s bm clock S Q v5 mb lb Mm Lm mv) {i : Nat} (hi : i < Q.length) {Rm' : List (ByteArray × Value)} {rv' : ByteArray → List Int} (hm : MapIs w' Q[i].rb Rm') (hb : But1 Q[i].rb w w') (hr : RowsOf w' Rm' rv') :
    Mem w0 w' s bm clock S (Q.set i { Q[i] with Rm := Rm', rv := rv' }) v5 mb lb Mm Lm mv ∧ Fq w w' := by
  have hi' := H.sn i hi
  have hf : Fr [Q[i].rb] w w' := Fr.but1 hb hi'.rm.norow
  have hfq := Fq.map hi'.rm hf
  have hnq := H.nq i hi
  simp only [Sn.maps, List.mem_cons, List.not_mem_nil, or_false, not_or] at hnq
  have hn1 : ∀ {k : Nat}, k ≠ Q[i].rb → k ∉ [Q[i].rb] := fun h => by simpa using h
  have hsp := H.st.sp
  have hsp' : SpAt w' s bm clock S := hsp.fr hf (hn1 (fun e => sp_ne_map hsp hi'.rm e)) (hn1 (fun e => hi'.ne.1 e.symm)) (fun y hy => hn1 (fun e => g_ne_map hsp hy hi'.rm e))
  refine ⟨⟨⟨hsp', H.st.bel.trans (hf.below H.st.bel.size (fun k hk => by obtain rfl := List.mem_singleton.1 hk; exact hi'.lo)), H.st.up⟩, fun j hj => ?_, fun j k hj hk hjk => ?_, H.mm.fr hf (hn1 hnq.1.2.2.1), H.lm.fr hf (hn1 hnq.2.2.2.1), H.mr.fr hf, H.ne, fun j hj => ?_, H.lo, ?_⟩, hfq⟩
  · rw [qset_at]
    split
    · exact ⟨hi'.tx.frT hf (hn1 (fun e => hi'.tx.1.tx.ne_map hi'.rm e)) (hn1 (fun e => hi'.ne.2.2.2.1 e.symm)) (hn1 (fun e => hi'.ne.2.2.2.2.1 e.symm)), hfq.keep _ _ _ _ hi'.sn (by decide) (by decide) (by decide), hm, hi'.gm.fr hf (hn1 (fun e => hi'.ne.2.2.1 e.symm)), hi'.rw_.fr hf, hr, hi'.rg.fr hf, hi'.ne, hi'.lo⟩
    · rename_i hij
      have hjl : j < Q.length := by simpa using hj
      have hj' := H.sn j hjl
      have ho := (H.ap i j hi hjl hij).of
      exact hj'.frT hf (hj'.tx.frT hf (hn1 (fun e => hj'.tx.1.tx.ne_map hi'.rm e)) (hn1 ho.2.2.2.2.2.2.1) (hn1 ho.2.2.2.2.2.2.2)) (hn1 (fun e => hi'.rm.norow _ _ _ (by rw [← e]; exact hj'.sn))) (hn1 ho.2.2.1) (hn1 ho.2.2.2.2.2.1)
  · have hjl : j < Q.length := by simpa using hj
    have hkl : k < Q.length := by simpa using hk
    rw [qset_at, qset_at]
    split
    · rename_i e1
      subst e1
      rw [if_neg hjk]
      exact H.ap i k hi hkl hjk
    · split
      · rename_i e1 e2
        subst e2
        exact H.ap j i hjl hi hjk
      · exact H.ap j k hjl hkl hjk
  · have hjl : j < Q.length := by simpa using hj
    rw [qset_at]
    split
    · exact H.nq i hi
    · exact H.nq j hjl
  · have h1 := ps_fq H.ps hfq
    have h2 : (Q.set i { Q[i] with Rm := Rm', rv := rv' }).map (fun x => ptr x.q) = Q.map fun x => ptr x.q := by
      rw [List.map_set]
      show (Q.map fun x => ptr x.q).set i (ptr Q[i].q) = _
      have : (Q.map fun x => ptr x.q)[i]'(by simpa using hi) = ptr Q[i].q := by simp
      rw [← this, List.set_getElem_self]
    rw [h2, List.length_set]
    exact h1
/-- One of the law's two maps is turned. -/
theorem Mem.other (H : Mem w0 w s bm clock S Q v5 mb lb Mm Lm mv) {b : Nat} {mm : List (ByteArray × Value)} (hm : MapIs w b mm) (hb : But1 b w w') (h1 : b ≠ bm) (h2 : ∀ j (h : j < Q.length), b ∉ Q[j].maps) (h3 : w0.heap.size ≤ b) :
    LawSt w0 w' s bm clock S ∧ (∀ j (h : j < Q.length), SnIs w0 w' s bm Q[j]) ∧ Fr [b] w w' ∧ Fq w w' := by
  have hf : Fr [b] w w' := Fr.but1 hb hm.norow
  have hfq := Fq.map hm hf
  have hn1 : ∀ {k : Nat}, k ≠ b → k ∉ [b] := fun h => by simpa using h
  have hsp := H.st.sp
  have hsp' : SpAt w' s bm clock S := hsp.fr hf (hn1 (fun e => sp_ne_map hsp hm e)) (hn1 (fun e => h1 e.symm)) (fun y hy => hn1 (fun e => g_ne_map hsp hy hm e))
  refine ⟨⟨hsp', H.st.bel.trans (hf.below H.st.bel.size (fun k hk => by obtain rfl := List.mem_singleton.1 hk; exact h3)), H.st.up⟩, fun j hj => ?_, hf, hfq⟩
  have hj' := H.sn j hj
  have ho := h2 j hj
  simp only [Sn.maps, List.mem_cons, List.not_mem_nil, or_false, not_or] at ho
  exact hj'.frT hf (hj'.tx.frT hf (hn1 (fun e => hj'.tx.1.tx.ne_map hm e)) (hn1 (fun e => ho.1 e.symm)) (hn1 (fun e => ho.2.1 e.symm))) (hn1 (fun e => hm.norow _ _ _ (by rw [← e]; exact hj'.sn))) (hn1 (fun e => ho.2.2.1 e.symm)) (hn1 (fun e => ho.2.2.2 e.symm))
theorem Mem.modelMap (H : Mem w0 w s bm clock S Q v5 mb lb Mm Lm mv) {Mm' : List (ByteArray × Value)} {mv' : ByteArray → List Int} (hm : MapIs w' mb Mm') (hb : But1 mb w w') (hr : RowsOf w' Mm' mv') :
    Mem w0 w' s bm clock S Q v5 mb lb Mm' Lm mv' ∧ Fq w w' := by
  obtain ⟨h1, h2, h3, h4⟩ := H.other H.mm hb H.ne.1 (fun j hj => (H.nq j hj).1) H.lo.1
  exact ⟨⟨h1, h2, H.ap, hm, H.lm.fr h3 (by simpa using fun e => H.ne.2.2 e.symm), hr, H.ne, H.nq, H.lo, ps_fq H.ps h4⟩, h4⟩
theorem Mem.lastMap (H : Mem w0 w s bm clock S Q v5 mb lb Mm Lm mv) {Lm' : List (ByteArray × Value)} (hm : MapIs w' lb Lm') (hb : But1 lb w w') :
    Mem w0 w' s bm clock S Q v5 mb lb Mm Lm' mv ∧ Fq w w' := by
  obtain ⟨h1, h2, h3, h4⟩ := H.other H.lm hb H.ne.2.1 (fun j hj => (H.nq j hj).2) H.lo.2
  exact ⟨⟨h1, h2, H.ap, H.mm.fr h3 (by simpa using H.ne.2.2), hm, H.mr.fr h3, H.ne, H.nq, H.lo, ps_fq H.ps h4⟩, h4⟩
end
end Go.Proofs.Ytkjliijcnllohaa.S
namespace Go.Proofs.Ytkjliijcnllohaa.S
open Go.RowKit Go.Proofs.YtkjliijcnllohaaW.PrintWords Go.Proofs.YtkjliijcnllohaaW.PrintLast Go.Proofs.YtkjliijcnllohaaW.PrintMore
set_option linter.unusedVariables false
set_option linter.unusedSimpArgs false
theorem sptr_info : (Try.prog.info? 51).map (fun i => (i.zero, i.size, i.bytes)) = some (some (.pointer none), 1, 8) := by kernel_rfl
section
variable {w0 w w' w1 : World} {s bm mb lb : Nat} {clock clock' : Int} {S S' : List Ent} {Q : List Sn} {v5 : Value} {Mm Lm : List (ByteArray × Value)} {mv : ByteArray → List Int} {X : ByteArray → Prop}
theorem RowsOf.fs {B : Nat} {m : List (ByteArray × Value)} {f : ByteArray → List Int} (h : RowsOf w m f) (hf : Fs B w w') : RowsOf w' m f := fun p hp => (h p hp).fs hf
theorem SnIs.fs {B : Nat} {x : Sn} (h : SnIs w0 w s bm x) (hf : Fs B w w') : SnIs w0 w' s bm x :=
  ⟨⟨h.tx.1.fs hf, h.tx.2⟩, hf.keep _ _ h.sn (.inr rfl), h.rm.fs hf, h.gm.fs hf, h.rw_.fs hf, h.rr.fs hf, h.rg.fs hf, h.ne, h.lo⟩
theorem ps_form {base n : Nat} {v : Value} {xs : List Value} (h : w.ownsRow base 51 1 v n xs) : ∃ A c, v = .slice A n c := by
  rcases h.2 with ⟨h1, h2⟩ | ⟨g, cap, cur, h1, h2⟩
  · exact ⟨none, 0, by rw [h2, h1]⟩
  · exact ⟨_, _, h1⟩
/-- A pointer out of the list. -/
theorem ps_at {base n : Nat} {A : Option Addr} {c : Nat} {Q : List Sn} (h : w.ownsRow base 51 1 (.slice A n c) n (Q.map fun x => ptr x.q)) (hn : Q.length = n) {i : Nat} (hi : i < Q.length) : ∃ g, A = some ⟨g, 0, none⟩ ∧ w.cell? ⟨g, i, none⟩ = some (.pointer (some ⟨Q[i].q, 0, none⟩)) := by
  rcases h.2 with ⟨h1, h2⟩ | ⟨g, cap, cur, h1, h2, h3, h4, h5, h6, h7⟩
  · omega
  · simp only [Value.slice.injEq] at h1
    refine ⟨g, h1.1, (blk_cell h3 i).trans ?_⟩
    have : cur[i]? = (Q.map fun x => ptr x.q)[i]? := by
      rw [← h7, List.getElem?_take, if_pos (by omega)]; simp
    rw [this]
    simp [hi, ptr]
/-- One more transaction. -/
theorem Mem.push {A : Option Addr} {c n : Nat} (H : Mem w0 w s bm clock S Q (.slice A n c) mb lb Mm Lm mv) (hn : Q.length = n) (h1 : Mem w0 w1 s bm clock S Q (.slice A n c) mb lb Mm Lm mv) (hl : Q.length ≤ 1000) {t br bw rb gb : Nat} {Gm : List (ByteArray × Value)} {B : ByteArray → List Int}
    (htx : TxIs w s bm t br bw clock 0 [] []) (hrm : MapIs w rb []) (hgm : MapIs w gb Gm) (hrg : RowsOf w Gm B) (hf1 : w1.heap.size ≤ t ∧ w1.heap.size ≤ br ∧ w1.heap.size ≤ bw) (hf2 : t < rb ∧ br < rb ∧ bw < rb ∧ rb < gb) (f0 f1 : ByteArray → List Int) :
    ∃ A' c' w', (∀ ty, (Builtin.append_ #[46, 46] ty #[.slice A n c, .slice (some ⟨w.heap.size + 1, 0, none⟩) 1 1]).run Try.prog ((w.alloc (.cells #[.pointer (some ⟨t, 0, none⟩), .map (some rb), .map (some gb)] 54)).alloc (.cells #[.pointer (some ⟨w.heap.size, 0, none⟩)] 51)) = .ok (.slice A' (n + 1) c') w') ∧
      Mem w0 w' s bm clock S (Q ++ [⟨w.heap.size, t, br, bw, rb, gb, clock, 0, [], [], [], Gm, f0, f1, B⟩]) (.slice A' (n + 1) c') mb lb Mm Lm mv := by
  subst hn
  obtain ⟨i0, hi, hz0, hz1, hz2⟩ := info_parts sptr_info
  have hbA : Below w.heap.size w (w.alloc (.cells #[.pointer (some ⟨t, 0, none⟩), .map (some rb), .map (some gb)] 54)) := (Below.refl _ w).alloc (Nat.le_refl _) _
  have hszA : (w.alloc (.cells #[.pointer (some ⟨t, 0, none⟩), .map (some rb), .map (some gb)] 54)).heap.size = w.heap.size + 1 := by simp
  have hbB : Below w.heap.size w ((w.alloc (.cells #[.pointer (some ⟨t, 0, none⟩), .map (some rb), .map (some gb)] 54)).alloc (.cells #[.pointer (some ⟨w.heap.size, 0, none⟩)] 51)) := below_alloc hbA _
  have hsn : ((w.alloc (.cells #[.pointer (some ⟨t, 0, none⟩), .map (some rb), .map (some gb)] 54)).alloc (.cells #[.pointer (some ⟨w.heap.size, 0, none⟩)] 51)).heap[w.heap.size]? = some (.cells #[.pointer (some ⟨t, 0, none⟩), .map (some rb), .map (some gb)] 54 (0, 0)) :=
    (((Below.refl _ (w.alloc (.cells #[.pointer (some ⟨t, 0, none⟩), .map (some rb), .map (some gb)] 54))).alloc (Nat.le_refl _) (.cells #[.pointer (some ⟨w.heap.size, 0, none⟩)] 51)).block _ (by rw [hszA]; omega)).trans (blk_new w _)
  have hpn : ((w.alloc (.cells #[.pointer (some ⟨t, 0, none⟩), .map (some rb), .map (some gb)] 54)).alloc (.cells #[.pointer (some ⟨w.heap.size, 0, none⟩)] 51)).heap[w.heap.size + 1]? = some (.cells #[.pointer (some ⟨w.heap.size, 0, none⟩)] 51 (0, 0)) := by
    have := blk_new (w.alloc (.cells #[.pointer (some ⟨t, 0, none⟩), .map (some rb), .map (some gb)] 54)) (.cells #[.pointer (some ⟨w.heap.size, 0, none⟩)] 51)
    rw [hszA] at this
    exact this
  have HB := H.new hbB
  have htxB : TxIs _ s bm t br bw clock 0 [] [] := htx.fr (Fr.ofBelow hbB [])
  have hrmB := hrm.fr (Fr.ofBelow hbB []) (by simp)
  have hgmB := hgm.fr (Fr.ofBelow hbB []) (by simp)
  have hrgB := hrg.fr (Fr.ofBelow hbB [])
  generalize ((w.alloc (.cells #[.pointer (some ⟨t, 0, none⟩), .map (some rb), .map (some gb)] 54)).alloc (.cells #[.pointer (some ⟨w.heap.size, 0, none⟩)] 51)) = W at *
  have hnews : ∀ j u, [Value.pointer (some ⟨w.heap.size, 0, none⟩)][j]? = some u → W.cell? ((⟨w.heap.size + 1, 0, none⟩ : Addr).add j) = some u := fun j u hj => by
    have hjl : j = 0 := by
      have := (List.getElem?_eq_some_iff.1 hj).1
      simp at this; exact this
    subst hjl
    have e : ((⟨w.heap.size + 1, 0, none⟩ : Addr).add 0) = ⟨w.heap.size + 1, 0, none⟩ := by unfold Addr.add; split <;> simp_all
    rw [e]
    exact ((blk_cell hpn 0).trans rfl).trans hj
  obtain ⟨v', w', hrun, hown, hgr, -⟩ := run_append_own (P := Try.prog) W w0.heap.size 46 46 51 i0 _ 1 8 Try.underlying46 hi hz0 hz1 hz2 rfl (by decide) (.slice A Q.length c) Q.length _ HB.ps ⟨w.heap.size + 1, 0, none⟩ 1 1 [.pointer (some ⟨w.heap.size, 0, none⟩)] rfl hnews (fun u hu => by obtain rfl := List.mem_singleton.1 hu; rfl) (by unfold maxLen; omega) (by omega) HB.st.bel.size
  obtain ⟨A', c', rfl⟩ := ps_form hown
  have hfs : Fs w0.heap.size W w' := Fs.grown hgr (fun k hk => by
    rcases HB.ps.2 with ⟨h1, h2⟩ | ⟨g, cap, cur, h1, h2, h3, h4⟩
    · rw [h1] at hk; simp [Value.ownBlock] at hk
    · rw [h1] at hk
      obtain rfl : g = k := by simpa [Value.ownBlock] using hk
      exact ⟨h2, _, h3, rfl⟩)
  have hbig := h1.st.bel.size
  have hnew : SnIs w0 W s bm ⟨w.heap.size, t, br, bw, rb, gb, clock, 0, [], [], [], Gm, f0, f1, B⟩ := by
    have hlb := h1.st.sp.mp.lt
    exact ⟨⟨htxB, Nat.le_trans hbig hf1.1, Nat.le_trans hbig hf1.2.1, Nat.le_trans hbig hf1.2.2⟩, hsn, hrmB, hgmB, RowsOf.nil _ _, RowsOf.nil _ _, hrgB, ⟨by show rb ≠ bm; omega, by show gb ≠ bm; omega, by show rb ≠ gb; omega, by show rb ≠ br; omega, by show rb ≠ bw; omega, by show gb ≠ br; omega, by show gb ≠ bw; omega⟩, by show w0.heap.size ≤ rb; omega⟩
  have hold : ∀ j (hj : j < Q.length), Q[j].t < w1.heap.size ∧ ∀ a ∈ Q[j].maps, a < w1.heap.size := fun j hj => by
    have h := h1.sn j hj
    refine ⟨h.tx.1.tx.lt, fun a ha => ?_⟩
    simp only [Sn.maps, List.mem_cons, List.not_mem_nil, or_false] at ha
    rcases ha with rfl | rfl | rfl | rfl
    · exact h.tx.1.rd.lt
    · exact h.tx.1.wr.lt
    · exact h.rm.lt
    · exact h.gm.lt
  have hnm : ∀ a ∈ [br, bw, rb, gb], w1.heap.size ≤ a := fun a ha => by
    simp only [List.mem_cons, List.not_mem_nil, or_false] at ha
    rcases ha with rfl | rfl | rfl | rfl <;> omega
  have hxt : w1.heap.size ≤ (⟨w.heap.size, t, br, bw, rb, gb, clock, 0, [], [], [], Gm, f0, f1, B⟩ : Sn).t := hf1.1
  have hxm : ∀ a ∈ (⟨w.heap.size, t, br, bw, rb, gb, clock, 0, [], [], [], Gm, f0, f1, B⟩ : Sn).maps, w1.heap.size ≤ a := hnm
  have hxq : [Value.pointer (some ⟨w.heap.size, 0, none⟩)] = [ptr (⟨w.heap.size, t, br, bw, rb, gb, clock, 0, [], [], [], Gm, f0, f1, B⟩ : Sn).q] := rfl
  rw [hxq] at hown
  clear hxq hnm
  generalize (⟨w.heap.size, t, br, bw, rb, gb, clock, 0, [], [], [], Gm, f0, f1, B⟩ : Sn) = x at *
  have hg : ∀ j (hj : j < (Q ++ [x]).length), (∃ h : j < Q.length, (Q ++ [x])[j] = Q[j]) ∨ (j = Q.length ∧ (Q ++ [x])[j] = x) := fun j hj => by
    by_cases h : j < Q.length
    · exact .inl ⟨h, List.getElem_append_left h⟩
    · have : j = Q.length := by simp at hj; omega
      subst this
      exact .inr ⟨rfl, by simp⟩
  refine ⟨A', c', w', fun ty => hrun, ⟨⟨HB.st.sp.fs hfs, HB.st.bel.trans (hfs.below HB.st.bel.size), HB.st.up⟩, fun j hj => ?_, fun j k hj hk hjk => ?_, HB.mm.fs hfs, HB.lm.fs hfs, HB.mr.fs hfs, HB.ne, fun j hj => ?_, HB.lo, ?_⟩⟩
  · rcases hg j hj with ⟨h, e⟩ | ⟨-, e⟩
    · rw [e]; exact (HB.sn j h).fs hfs
    · rw [e]; exact hnew.fs hfs
  · rcases hg j hj with ⟨h, e⟩ | ⟨hjq, e⟩
    · rcases hg k hk with ⟨h', e'⟩ | ⟨hkq, e'⟩
      · rw [e, e']; exact HB.ap j k h h' hjk
      · rw [e, e']
        have ho := hold j h
        exact ⟨by have := ho.1; omega, fun a ha ha' => by have := ho.2 a ha; have := hxm a ha'; omega⟩
    · rcases hg k hk with ⟨h', e'⟩ | ⟨hkq, e'⟩
      · rw [e, e']
        have ho := hold k h'
        exact ⟨by have := ho.1; omega, fun a ha ha' => by have := ho.2 a ha'; have := hxm a ha; omega⟩
      · omega
  · rcases hg j hj with ⟨h, e⟩ | ⟨-, e⟩
    · rw [e]; exact HB.nq j h
    · rw [e]
      have a1 := h1.mm.lt
      have a2 := h1.lm.lt
      exact ⟨fun ha => by have := hxm _ ha; omega, fun ha => by have := hxm _ ha; omega⟩
  · rw [List.length_append, List.map_append]
    exact hown
end
end Go.Proofs.Ytkjliijcnllohaa.S
namespace Go.Proofs.Ytkjliijcnllohaa.S
open Go.RowKit Go.Proofs.YtkjliijcnllohaaW.PrintWords Go.Proofs.YtkjliijcnllohaaW.PrintLast Go.Proofs.YtkjliijcnllohaaW.PrintMore
set_option linter.unusedVariables false
set_option linter.unusedSimpArgs false
/-- One of the three names. -/
def nmK (n : ByteArray) : Prop := n ∈ [(⟨#[97]⟩ : ByteArray), ⟨#[98]⟩, ⟨#[99]⟩]
theorem nmK_of (k : ByteArray) : nmK (nmOf k) := by
  unfold nmK nmOf
  split
  · simp
  · split <;> simp
theorem nmK_size {n : ByteArray} (h : nmK n) : n.size ≤ 11 := by
  unfold nmK at h
  simp only [List.mem_cons, List.not_mem_nil, or_false] at h
  rcases h with rfl | rfl | rfl <;> decide
theorem few_names {l K : List ByteArray} (hd : l.Pairwise (· ≠ ·)) (hs : ∀ x ∈ l, x ∈ K) : l.length ≤ K.length := by
  induction l generalizing K with
  | nil => simp
  | cons a l ih =>
    rw [List.pairwise_cons] at hd
    have h1 := ih (K := K.filter fun y => decide (y ≠ a)) hd.2 (fun x hx => List.mem_filter.2 ⟨hs x (List.mem_cons_of_mem _ hx), by simpa using fun e => hd.1 x hx e.symm⟩)
    have h2 : (K.filter fun y => decide (y ≠ a)).length < K.length := List.length_filter_lt_length_iff_exists.2 ⟨a, hs a (List.mem_cons_self ..), by simp⟩
    simp only [List.length_cons]
    omega
theorem SpAt.few {w : World} {s bm : Nat} {clock : Int} {S : List Ent} (h : SpAt w s bm clock S) (hn : ∀ n ∈ S.map (·.name), nmK n) : S.length ≤ 3 := by
  have := few_names (l := S.map (·.name)) (K := [(⟨#[97]⟩ : ByteArray), ⟨#[98]⟩, ⟨#[99]⟩]) (by rw [List.pairwise_map]; exact h.names) hn
  simpa using this
theorem MapIs.few {w : World} {b : Nat} {m : List (ByteArray × Value)} (h : MapIs w b m) (hn : ∀ p ∈ m, nmK p.1) : m.length ≤ 3 := by
  obtain ⟨es, c, h1, h2, h3⟩ := h
  have := few_names (l := m.map (·.1)) (K := [(⟨#[97]⟩ : ByteArray), ⟨#[98]⟩, ⟨#[99]⟩]) (by rw [List.pairwise_map]; exact pairs_apart h2 h3) (fun n hn' => by
    obtain ⟨p, hp, rfl⟩ := List.mem_map.1 hn'
    exact hn p hp)
  simpa using this
/-- What a transaction had when it began. -/
def Sn.bf (x : Sn) (n : ByteArray) : List Int := if has x.Gm n = true then x.B n else []
/-- What it read. -/
def Sn.R (x : Sn) (n : ByteArray) : Option (List Int) := if has x.Rm n = true then some (x.rv n) else none
def verS (S : List Ent) (n : ByteArray) : Int := (sv S n).ver
def bsS (S : List Ent) (n : ByteArray) : List Int := (sv S n).bs
structure Log (clock : Int) (N : Nat) (S : List Ent) (Q : List Sn) (Lm : List (ByteArray × Value)) : Prop where
  hc : 0 ≤ clock ∧ clock ≤ N
  ver : ∀ n, 0 ≤ verS S n ∧ verS S n ≤ clock
  nb : ∀ n, (sv S n).had = false → bsS S n = []
  last : ∀ p ∈ Lm, ∃ z, p.2 = .int .i64 z ∧ z ≤ verS S p.1
  ser : ∀ j (h : j < Q.length), SerI (verS S) (bsS S) clock Q[j].time Q[j].bf (has Q[j].mr) Q[j].R
  nmS : ∀ n ∈ S.map (·.name), nmK n
  nmW : ∀ j (h : j < Q.length), (∀ p ∈ Q[j].m, nmK p.1) ∧ ∀ p ∈ Q[j].mr, nmK p.1
  len : Q.length ≤ N
/-- The model has what the slots have. -/
structure Mod (S : List Ent) (Mm : List (ByteArray × Value)) (mv : ByteArray → List Int) : Prop where
  m1 : ∀ n, has Mm n = true → mv n = bsS S n
  m0 : ∀ n, has Mm n = false → bsS S n = []
theorem Mod.look {S : List Ent} {Mm : List (ByteArray × Value)} {mv : ByteArray → List Int} (h : Mod S Mm mv) (n : ByteArray) : (if has Mm n = true then mv n else []) = bsS S n := by
  cases hh : has Mm n with
  | true => rw [if_pos rfl]; exact h.m1 n hh
  | false => rw [if_neg (by simp)]; exact (h.m0 n hh).symm
/-- Slots that have the same versions and bytes. -/
structure Same (S S' : List Ent) : Prop where
  ver : ∀ n, verS S' n = verS S n
  bs : ∀ n, bsS S' n = bsS S n
  had : ∀ n, (sv S' n).had = (sv S n).had
theorem Same.of {S S' : List Ent} (h : ∀ n, sv S' n = sv S n) : Same S S' := ⟨fun n => by unfold verS; rw [h], fun n => by unfold bsS; rw [h], fun n => by rw [h]⟩
theorem Sv.unlock_same (t : Nat) (x : Sv) : (x.unlock t).ver = x.ver ∧ (x.unlock t).bs = x.bs ∧ (x.unlock t).had = x.had := by unfold Sv.unlock; split <;> exact ⟨rfl, rfl, rfl⟩
theorem Same.unlock {S S' : List Ent} {t : Nat} (h : ∀ n, sv S' n = (sv S n).unlock t) : Same S S' :=
  ⟨fun n => by unfold verS; rw [h]; exact (Sv.unlock_same t _).1, fun n => by unfold bsS; rw [h]; exact (Sv.unlock_same t _).2.1, fun n => by rw [h]; exact (Sv.unlock_same t _).2.2⟩
theorem Same.lock {S S' : List Ent} {t : Nat} {W : ByteArray → Bool} (h : ∀ n, sv S' n = if W n = true then { sv S n with lock := some t } else sv S n) : Same S S' :=
  ⟨fun n => by unfold verS; rw [h]; split <;> rfl, fun n => by unfold bsS; rw [h]; split <;> rfl, fun n => by rw [h]; split <;> rfl⟩
theorem Same.refl (S : List Ent) : Same S S := ⟨fun _ => rfl, fun _ => rfl, fun _ => rfl⟩
theorem Mod.same {S S' : List Ent} {Mm : List (ByteArray × Value)} {mv : ByteArray → List Int} (h : Mod S Mm mv) (hs : Same S S') : Mod S' Mm mv :=
  ⟨fun n hn => by rw [hs.bs]; exact h.m1 n hn, fun n hn => by rw [hs.bs]; exact h.m0 n hn⟩
section
variable {clock : Int} {N : Nat} {S S' : List Ent} {Q : List Sn} {Lm : List (ByteArray × Value)}
theorem Log.mono (L : Log clock N S Q Lm) {N' : Nat} (h : N ≤ N') : Log clock N' S Q Lm := ⟨⟨L.hc.1, by have := L.hc.2; omega⟩, L.ver, L.nb, L.last, L.ser, L.nmS, L.nmW, by have := L.len; omega⟩
/-- A call that turns neither versions nor bytes. -/
theorem Log.call (L : Log clock N S Q Lm) {i : Nat} (hi : i < Q.length) (hs : Same S S') (hN : ∀ n ∈ S'.map (·.name), n ∈ S.map (·.name) ∨ nmK n) {phase' : Int} {mr' m' : List (ByteArray × Value)} {wb' : ByteArray → List Int} (hmr : ∀ n, has Q[i].mr n = true → has mr' n = true) (k1 : ∀ p ∈ m', nmK p.1) (k2 : ∀ p ∈ mr', nmK p.1) :
    Log clock N S' (Q.set i { Q[i] with phase := phase', mr := mr', m := m', wb := wb' }) Lm := by
  refine ⟨L.hc, fun n => by rw [hs.ver]; exact L.ver n, fun n hn => by rw [hs.bs]; exact L.nb n (by rw [← hs.had]; exact hn), fun p hp => ?_, fun j hj => ?_, fun n hn => (hN n hn).elim (L.nmS n) id, fun j hj => ?_, by rw [List.length_set]; exact L.len⟩
  · obtain ⟨z, h1, h2⟩ := L.last p hp
    exact ⟨z, h1, by rw [hs.ver]; exact h2⟩
  · rw [qset_at]
    split
    · exact (L.ser i hi).same hs.ver hs.bs hmr
    · exact (L.ser j (by simpa using hj)).same hs.ver hs.bs (fun _ h => h)
  · rw [qset_at]
    split
    · exact ⟨k1, k2⟩
    · exact L.nmW j (by simpa using hj)
/-- What was read is kept. -/
theorem Log.read (L : Log clock N S Q Lm) {i : Nat} (hi : i < Q.length) {n : ByteArray} (hv : verS S n ≤ Q[i].time) (hn : has Q[i].mr n = true) (v : Value) {rv' : ByteArray → List Int} (hrv : ∀ k, rv' k = if k = n then bsS S n else Q[i].rv k) :
    Log clock N S (Q.set i { Q[i] with Rm := put Q[i].Rm n v, rv := rv' }) Lm := by
  refine ⟨L.hc, L.ver, L.nb, L.last, fun j hj => ?_, L.nmS, fun j hj => ?_, by rw [List.length_set]; exact L.len⟩
  · rw [qset_at]
    split
    · refine (L.ser i hi).read hv rfl hn (fun k => ?_)
      show (if has (put Q[i].Rm n v) k = true then some (rv' k) else none) = _
      rw [has_put, hrv]
      by_cases e : k = n
      · simp [e]
      · simp only [decide_eq_false e, Bool.false_or, if_neg e]
        rfl
    · exact L.ser j (by simpa using hj)
  · rw [qset_at]
    split
    · exact L.nmW i hi
    · exact L.nmW j (by simpa using hj)
/-- A publish. -/
theorem Log.publish (L : Log clock N S Q Lm) {i : Nat} (hi : i < Q.length) {t : Nat} {m : List (ByteArray × Value)} {wb : ByteArray → List Int} (hm : m = Q[i].m) (hs : ∀ n, sv S' n = (if has m n = true then ⟨clock + 1, wb n, true, (sv S n).lock⟩ else sv S n).unlock t) (hN : ∀ n ∈ S'.map (·.name), n ∈ S.map (·.name) ∨ nmK n) {phase' : Int} :
    Log (if m = [] then clock else clock + 1) (N + 1) S' (Q.set i { Q[i] with phase := phase' }) Lm := by
  have hver : ∀ n, verS S' n = if has m n = true then clock + 1 else verS S n := fun n => by
    unfold verS; rw [hs, (Sv.unlock_same t _).1]; split <;> rfl
  have hbs : ∀ n, bsS S' n = if has m n = true then wb n else bsS S n := fun n => by
    unfold bsS; rw [hs, (Sv.unlock_same t _).2.1]; split <;> rfl
  have hhad : ∀ n, (sv S' n).had = if has m n = true then true else (sv S n).had := fun n => by
    rw [hs, (Sv.unlock_same t _).2.2]; split <;> rfl
  have hcl : clock ≤ (if m = [] then clock else clock + 1) ∧ (if m = [] then clock else clock + 1) ≤ clock + 1 := by split <;> omega
  have hcm : ∀ n, has m n = true → (if m = [] then clock else clock + 1) = clock + 1 := fun n hn => by
    rw [if_neg]
    intro e
    rw [e] at hn; cases hn
  generalize (if m = [] then clock else clock + 1) = c' at *
  refine ⟨⟨by have := L.hc.1; omega, by have := L.hc.2; push_cast; omega⟩, fun n => ?_, fun n hn => ?_, fun p hp => ?_, fun j hj => ?_, fun n hn => (hN n hn).elim (L.nmS n) id, fun j hj => ?_, by rw [List.length_set]; exact Nat.le_succ_of_le L.len⟩
  · rw [hver]
    split
    · rename_i e
      rw [hcm n e]
      have := L.hc.1; omega
    · have := L.ver n; omega
  · rw [hhad] at hn
    split at hn
    · cases hn
    · rename_i e
      rw [hbs, if_neg e]; exact L.nb n hn
  · obtain ⟨z, h1, h2⟩ := L.last p hp
    refine ⟨z, h1, ?_⟩
    rw [hver]
    split
    · have := (L.ver p.1).2; omega
    · exact h2
  · rw [qset_at]
    split
    · exact (L.ser i hi).published hcl.1 hver hbs
    · exact (L.ser j (by simpa using hj)).published hcl.1 hver hbs
  · rw [qset_at]
    split
    · exact L.nmW i hi
    · exact L.nmW j (by simpa using hj)
/-- One more transaction. -/
theorem Log.push (L : Log clock N S Q Lm) {x : Sn} (h1 : x.time = clock) (h2 : ∀ n, x.bf n = bsS S n) (h3 : x.Rm = []) (h4 : x.m = [] ∧ x.mr = []) : Log clock (N + 1) S (Q ++ [x]) Lm := by
  have hg : ∀ j (hj : j < (Q ++ [x]).length), (∃ h : j < Q.length, (Q ++ [x])[j] = Q[j]) ∨ (Q ++ [x])[j] = x := fun j hj => by
    by_cases h : j < Q.length
    · exact .inl ⟨h, List.getElem_append_left h⟩
    · have : j = Q.length := by simp at hj; omega
      subst this
      exact .inr (by simp)
  refine ⟨⟨L.hc.1, by have := L.hc.2; push_cast; omega⟩, L.ver, L.nb, L.last, fun j hj => ?_, L.nmS, fun j hj => ?_, by rw [List.length_append, List.length_singleton]; exact Nat.succ_le_succ L.len⟩
  · rcases hg j hj with ⟨h, e⟩ | e
    · rw [e]; exact L.ser j h
    · rw [e, h1]
      have hb : x.bf = bsS S := funext h2
      have hR : x.R = fun _ => none := by funext n; unfold Sn.R; rw [h3]; rfl
      rw [hb, hR]
      exact SerI.start _ _ _ _
  · rcases hg j hj with ⟨h, e⟩ | e
    · rw [e]; exact L.nmW j h
    · rw [e, h4.1, h4.2]
      exact ⟨fun p hp => by simp at hp, fun p hp => by simp at hp⟩
theorem Log.lastPut (L : Log clock N S Q Lm) {n : ByteArray} {z : Int} (h : z ≤ verS S n) : Log clock N S Q (put Lm n (.int .i64 z)) :=
  ⟨L.hc, L.ver, L.nb, fun p hp => by
    rcases mem_put hp with rfl | ⟨hp, -⟩
    · exact ⟨z, rfl, h⟩
    · exact L.last p hp, L.ser, L.nmS, L.nmW, L.len⟩
theorem Log.lastLook (L : Log clock N S Q Lm) (n : ByteArray) : ∃ z, (get? Lm n).getD (.int .i64 0) = .int .i64 z ∧ z ≤ verS S n := by
  cases hg : get? Lm n with
  | none => exact ⟨0, rfl, (L.ver n).1⟩
  | some v =>
    obtain ⟨z, h1, h2⟩ := L.last _ (get_some_mem hg)
    exact ⟨z, h1, h2⟩
end
end Go.Proofs.Ytkjliijcnllohaa.S
