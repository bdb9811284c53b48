/- stm: lists of slots that a call makes: what a round of rising keeps. -/
import Derived.Test.YtkjliijcnllohaaHSort
namespace Go.Proofs.Ytkjliijcnllohaa.S
open Go.RowKit Go.Proofs.YtkjliijcnllohaaW.PrintWords Go.Proofs.YtkjliijcnllohaaW.PrintLast Go.Proofs.YtkjliijcnllohaaW.PrintMore
set_option linter.unusedVariables false
set_option linter.unusedSimpArgs false

/-- Lists of one's own: of slots, a variable that holds such, of pointers to what was seen. -/
def lst : Obj → Bool
  | .cells _ 28 _ => true
  | .cells _ 29 _ => true
  | .cells _ 51 _ => true
  | _ => false
/-- All blocks are as they were, but lists of one's own. -/
structure Fs (B : Nat) (w w' : World) : Prop where
  os : w'.os = w.os
  tape : w'.tape = w.tape
  output : w'.output = w.output
  size : w.heap.size ≤ w'.heap.size
  keep : ∀ k o, w.heap[k]? = some o → (k < B ∨ lst o = false) → w'.heap[k]? = some o
theorem Fs.refl (B : Nat) (w : World) : Fs B w w := ⟨rfl, rfl, rfl, Nat.le_refl _, fun _ _ h _ => h⟩
theorem Fs.trans {B : Nat} {a b c : World} (h : Fs B a b) (k : Fs B b c) : Fs B a c :=
  ⟨k.os.trans h.os, k.tape.trans h.tape, k.output.trans h.output, Nat.le_trans h.size k.size, fun i o ho hc => k.keep i o (h.keep i o ho hc) hc⟩
theorem Fs.ofBelow (B : Nat) {w w' : World} (h : Below w.heap.size w w') : Fs B w w' :=
  ⟨h.os, h.tape, h.output, h.size, fun k o ho _ => (h.block k (Array.getElem?_eq_some_iff.1 ho).1).trans ho⟩
theorem Fs.alloc (B : Nat) (w : World) (o : Obj) : Fs B w (w.alloc o) := Fs.ofBelow B ((Below.refl _ w).alloc (Nat.le_refl _) o)
theorem Fs.drew (B : Nat) (w : World) : Fs B w w.drew := ⟨rfl, rfl, rfl, Nat.le_refl _, fun _ _ h _ => h⟩
theorem Fs.below {B : Nat} {w w' : World} (h : Fs B w w') (hB : B ≤ w.heap.size) : Below B w w' :=
  ⟨h.os, h.tape, h.output, h.size, fun k hk => by
    have hk' : k < w.heap.size := by omega
    have ho : w.heap[k]? = some w.heap[k] := Array.getElem?_eq_getElem hk'
    rw [h.keep k _ ho (.inl hk), ho]⟩
theorem Fs.grown {B : Nat} {w w' : World} {r : Option Nat} (h : w.grownBy w' r) (hr : ∀ k, r = some k → B ≤ k ∧ ∃ o, w.heap[k]? = some o ∧ lst o = true) : Fs B w w' :=
  ⟨h.os, h.tape, h.output, h.size, fun k o ho hc => by
    by_cases e : r = some k
    · obtain ⟨h1, o', h2, h3⟩ := hr k e
      rw [ho] at h2
      have h2 := Option.some.inj h2
      subst h2
      rcases hc with hc | hc
      · omega
      · rw [hc] at h3; cases h3
    · rw [h.block k (Array.getElem?_eq_some_iff.1 ho).1 (fun e' => e e'.symm)]; exact ho⟩
theorem Fs.set {B g : Nat} {w : World} {cs : Array Value} (hg : w.heap[g]? = some (.cells cs 29 (0, 0))) (hB : B ≤ g) (i : Nat) (v : Value) : Fs B w (w.setCell ⟨g, i, none⟩ v) :=
  ⟨rfl, rfl, rfl, by simp [World.setCell], fun k o ho hc => by
    by_cases e : k = g
    · subst e
      rw [hg] at ho
      have ho := Option.some.inj ho
      rcases hc with hc | hc
      · omega
      · rw [← ho] at hc; cases hc
    · exact (Below.heap_setCell _ _ _ _ e).trans ho⟩
theorem RowAt.fs {B : Nat} {w w' : World} {v : Value} {xs : List Int} (h : RowAt w v xs) (hf : Fs B w w') : RowAt w' v xs := by
  refine ⟨h.1, ?_⟩
  rcases h.2 with h | ⟨g, c, cur, rfl, hb, hc⟩
  · exact .inl h
  · exact .inr ⟨g, c, cur, rfl, hf.keep _ _ hb (.inr rfl), hc⟩
theorem MapIs.fs {B : Nat} {w w' : World} {b : Nat} {m : List (ByteArray × Value)} (h : MapIs w b m) (hf : Fs B w w') : MapIs w' b m := by
  obtain ⟨es, c, h1, h2, h3⟩ := h
  exact ⟨es, c, hf.keep _ _ h1 (.inr rfl), h2, h3⟩
/-- Rows of names stay too. -/
theorem ownsRow_fs {B base n : Nat} {w w' : World} {v : Value} {xs : List Value} (h : w.ownsRow base 9 1 v n xs) (hf : Fs B w w') : w'.ownsRow base 9 1 v n xs := by
  refine ⟨h.1, ?_⟩
  rcases h.2 with h | ⟨g, cap, cur, h1, h2, h3, h4⟩
  · exact .inl h
  · exact .inr ⟨g, cap, cur, h1, h2, hf.keep _ _ h3 (.inr rfl), h4⟩
theorem SpAt.fs {B : Nat} {w w' : World} {s bm : Nat} {clock : Int} {S : List Ent} (h : SpAt w s bm clock S) (hf : Fs B w w') : SpAt w' s bm clock S :=
  ⟨hf.keep _ _ h.sp (.inr rfl), h.mp.fs hf, fun x hx => hf.keep _ _ (h.slot x hx) (.inr rfl), h.apart, fun x hx b hb => by
    obtain ⟨ca, hc⟩ := h.locks x hx b hb
    exact ⟨ca, hf.keep _ _ hc (.inr rfl)⟩, fun x hx => (h.rows x hx).fs hf⟩
theorem TxAt.fs {B : Nat} {w w' : World} {t s br bw : Nat} {time phase : Int} (h : TxAt w t s time phase br bw) (hf : Fs B w w') : TxAt w' t s time phase br bw := hf.keep _ _ h (.inr rfl)
theorem TxIs.fs {B : Nat} {w w' : World} {s bm t br bw : Nat} {time phase : Int} {mr m : List (ByteArray × Value)} (h : TxIs w s bm t br bw time phase mr m) (hf : Fs B w w') : TxIs w' s bm t br bw time phase mr m := ⟨h.tx.fs hf, h.rd.fs hf, h.wr.fs hf, h.ne⟩

def SA.cells (x : SA) : List Value := [.string x.name, .int .i64 x.ver, x.v]
theorem flat_len (L : List SA) : (L.flatMap SA.cells).length = L.length * 3 := by
  induction L with
  | nil => rfl
  | cons a L ih => simp only [List.flatMap_cons, List.length_append, ih, SA.cells, List.length_cons, List.length_nil]; omega
theorem flat_get : ∀ (L : List SA) (i : Nat) (h : i < L.length), (L.flatMap SA.cells)[i * 3]? = some (.string L[i].name) ∧ (L.flatMap SA.cells)[i * 3 + 1]? = some (.int .i64 L[i].ver) ∧ (L.flatMap SA.cells)[i * 3 + 2]? = some L[i].v
  | [], i, h => by simp at h
  | a :: L, 0, h => by simp [SA.cells]
  | a :: L, i + 1, h => by
    have ih := flat_get L i (by simpa using h)
    have e : ∀ j, ((a :: L).flatMap SA.cells)[(i + 1) * 3 + j]? = (L.flatMap SA.cells)[i * 3 + j]? := fun j => by
      rw [List.flatMap_cons, List.getElem?_append_right (by simp [SA.cells]; omega)]
      congr 1
      simp only [SA.cells, List.length_cons, List.length_nil]; omega
    simp only [List.getElem_cons_succ]
    exact ⟨(e 0).trans ih.1, (e 1).trans ih.2.1, (e 2).trans ih.2.2⟩
/-- A list of slots in memory, whole. -/
def SlotsAt (w : World) (v : Value) (L : List SA) : Prop := L.length ≤ 1000000000 ∧ w.ownsRow 0 28 3 v L.length (L.flatMap SA.cells) ∧ ∀ x ∈ L, RowAt w x.v x.bs
theorem SlotsAt.in_ {w : World} {v : Value} {L : List SA} (h : SlotsAt w v L) : ∃ p c, v = .slice p L.length c ∧ SlotsIn w p L := by
  obtain ⟨hl, ho, hr⟩ := h
  rcases ho.2 with ⟨h1, h2⟩ | ⟨g, cap, cur, h1, h2, h3, h4, h5, h6, h7⟩
  · exact ⟨none, 0, by rw [h2, h1], by omega, fun i hi => by omega⟩
  · refine ⟨_, cap, h1, by omega, fun i hi => ?_⟩
    have hg : ∀ j, j < L.length * 3 → cur[j]? = (L.flatMap SA.cells)[j]? := fun j hj => by
      rw [← h7, List.getElem?_take, if_pos hj]; simp
    obtain ⟨f0, f1, f2⟩ := flat_get L i hi
    have e : ((⟨g, 0, none⟩ : Addr).add (i * 3)) = ⟨g, i * 3, none⟩ := by unfold Addr.add; split <;> simp_all
    refine ⟨_, rfl, ?_, ?_, ?_, (hr _ (List.getElem_mem hi)).reads⟩
    · rw [e]; exact (blk_cell h3 _).trans ((hg _ (by omega)).trans f0)
    · rw [e]; exact (blk_cell h3 _).trans ((hg (i * 3 + 1) (by omega)).trans f1)
    · rw [e]; exact (blk_cell h3 _).trans ((hg (i * 3 + 2) (by omega)).trans f2)
theorem SlotsAt.fr {T : List Nat} {w w' : World} {v : Value} {L : List SA} (h : SlotsAt w v L) (hf : Fr T w w') (hT : ∀ k ∈ T, ∀ c fz, w.heap[k]? ≠ some (.cells c 28 fz)) : SlotsAt w' v L := by
  refine ⟨h.1, ⟨h.2.1.1, ?_⟩, fun x hx => (h.2.2 x hx).fr hf⟩
  rcases h.2.1.2 with h1 | ⟨g, cap, cur, h1, h2, h3, h4⟩
  · exact .inl h1
  · exact .inr ⟨g, cap, cur, h1, h2, hf.get h3 (fun hm => hT g hm _ _ h3), h4⟩
/-- The list while it is made: a variable of its own holds it. -/
structure LAt (w : World) (B g0 : Nat) (v : Value) (L : List SA) : Prop where
  lo : B ≤ g0
  cell : w.heap[g0]? = some (.cells #[v] 29 (0, 0))
  own : w.ownsRow B 28 3 v L.length (L.flatMap SA.cells)
  rows : ∀ x ∈ L, RowAt w x.v x.bs
theorem LAt.form {w : World} {B g0 : Nat} {v : Value} {L : List SA} (h : LAt w B g0 v L) : ∃ A c, v = .slice A L.length c := by
  rcases h.own.2 with ⟨h1, h2⟩ | ⟨g, cap, cur, h1, h2⟩
  · exact ⟨none, 0, by rw [h2, h1]⟩
  · exact ⟨_, _, h1⟩
theorem LAt.new (w : World) {B : Nat} (hB : B ≤ w.heap.size) : LAt (w.alloc (.cells #[.slice none 0 0] 29)) B w.heap.size (.slice none 0 0) [] :=
  ⟨hB, heap_alloc_new w _, ⟨rfl, .inl ⟨rfl, rfl⟩⟩, fun _ h => by simp at h⟩
theorem LAt.slots {w : World} {B g0 : Nat} {v : Value} {L : List SA} (h : LAt w B g0 v L) (hl : L.length ≤ 1000000000) : SlotsAt w v L :=
  ⟨hl, Kd.own_raise h.own (fun _ _ => Nat.zero_le _), h.rows⟩
theorem slot_info : (Try.prog.info? 28).map (fun i => (i.zero, i.size, i.bytes)) = some (some (.agg #[.string ⟨#[]⟩, .int .i64 0, .slice none 0 0]), 3, 48) := by kernel_rfl
theorem LAt.same {w w' : World} {B g0 : Nat} {v : Value} {L : List SA} (h : LAt w B g0 v L) (hb : Below w.heap.size w w') : LAt w' B g0 v L := by
  refine ⟨h.lo, (hb.block _ (blk_lt h.cell)).trans h.cell, ⟨h.own.1, ?_⟩, fun x hx => (h.rows x hx).fs (Fs.ofBelow 0 hb)⟩
  rcases h.own.2 with h1 | ⟨g, cap, cur, h1, h2, h3, h4⟩
  · exact .inl h1
  · exact .inr ⟨g, cap, cur, h1, h2, (hb.block _ (blk_lt h3)).trans h3, h4⟩
/-- One more slot. -/
theorem LAt.push {W : World} {B g0 c : Nat} {A : Option Addr} {L : List SA} (H : LAt W B g0 (.slice A L.length c) L) (x : SA) (hx : RowAt W x.v x.bs) (hlen : L.length < 1000000000) (hB : B ≤ W.heap.size) :
    ∃ A' c' w', (∀ ty, (Builtin.append_ #[29, 29] ty #[.slice A L.length c, .slice (some ⟨W.heap.size, 0, none⟩) 1 1]).run Try.prog (W.alloc (.cells #[.string x.name, .int .i64 x.ver, x.v] 28)) = .ok (.slice A' (L.length + 1) c') w') ∧
      (w'.cell? ⟨g0, 0, none⟩ = some (.slice A L.length c) ∧ w'.frozen? ⟨g0, 0, none⟩ = false ∧ Fs B W w') ∧ LAt (w'.setCell ⟨g0, 0, none⟩ (.slice A' (L.length + 1) c')) B g0 (.slice A' (L.length + 1) c') (L ++ [x]) ∧ Fs B W (w'.setCell ⟨g0, 0, none⟩ (.slice A' (L.length + 1) c')) := by
  obtain ⟨i0, hi, hz0, hz1, hz2⟩ := info_parts slot_info
  have hbA : Below W.heap.size W (W.alloc (.cells #[.string x.name, .int .i64 x.ver, x.v] 28)) := (Below.refl _ W).alloc (Nat.le_refl _) _
  have H1 := H.same hbA
  obtain ⟨xa, xn, xc, hxv⟩ := hx.form
  have hnews : ∀ j u, x.cells[j]? = some u → (W.alloc (.cells #[.string x.name, .int .i64 x.ver, x.v] 28)).cell? ((⟨W.heap.size, 0, none⟩ : Addr).add j) = some u := fun j u hj => by
    have hjl : j < 3 := by
      have := (List.getElem?_eq_some_iff.1 hj).1
      simpa [SA.cells] using this
    have hb := heap_alloc_new W (.cells #[.string x.name, .int .i64 x.ver, x.v] 28)
    have e : ((⟨W.heap.size, 0, none⟩ : Addr).add j) = ⟨W.heap.size, j, none⟩ := by unfold Addr.add; split <;> simp_all
    rw [e]
    refine (blk_cell hb j).trans ?_
    rw [← hj]
    simp [SA.cells]
  have h1 : ∀ u ∈ x.cells, u.oneCell' = true := fun u hu => by
    simp only [SA.cells, List.mem_cons, List.not_mem_nil, or_false, hxv] at hu
    rcases hu with rfl | rfl | rfl <;> rfl
  obtain ⟨v', w', hrun, hown, hgr, -⟩ := run_append_own (P := Try.prog) (W.alloc (.cells #[.string x.name, .int .i64 x.ver, x.v] 28)) B 29 29 28 i0 _ 3 48 Try.underlying29 hi hz0 hz1 hz2 rfl (by decide) (.slice A L.length c) L.length _ H1.own ⟨W.heap.size, 0, none⟩ 1 1 x.cells rfl hnews h1 (by unfold maxLen; omega) (by omega) (by simp; omega)
  have hform : ∃ A' c', v' = .slice A' (L.length + 1) c' := by
    rcases hown.2 with ⟨h1, h2⟩ | ⟨g, cap, cur, h1, h2⟩
    · omega
    · exact ⟨_, _, h1⟩
  obtain ⟨A', c', rfl⟩ := hform
  have hne : some g0 ≠ (Value.slice A L.length c).ownBlock := by
    rcases H1.own.2 with ⟨h1, h2⟩ | ⟨g, cap, cur, h1, h2, h3, h4⟩
    · rw [h1]; simp [Value.ownBlock]
    · rw [h1]
      intro e
      have e : g0 = g := by simpa [Value.ownBlock] using e
      have := H1.cell
      rw [e, h3] at this
      simp at this
  have hcell : w'.heap[g0]? = some (.cells #[.slice A L.length c] 29 (0, 0)) := (hgr.block _ (blk_lt H1.cell) hne).trans H1.cell
  have hfs : Fs B (W.alloc (.cells #[.string x.name, .int .i64 x.ver, x.v] 28)) w' := Fs.grown hgr (fun k hk => by
    rcases H1.own.2 with ⟨h1, h2⟩ | ⟨g, cap, cur, h1, h2, h3, h4⟩
    · rw [h1] at hk; simp [Value.ownBlock] at hk
    · rw [h1] at hk
      obtain rfl : g = k := by simpa [Value.ownBlock] using hk
      exact ⟨h2, _, h3, rfl⟩)
  have hfs1 := (Fs.ofBelow B hbA).trans hfs
  have hfs2 := hfs1.trans (Fs.set hcell H.lo 0 (.slice A' (L.length + 1) c'))
  refine ⟨A', c', w', fun ty => hrun, ⟨(blk_cell hcell 0).trans rfl, blk_frozen hcell 0, hfs1⟩, ⟨H.lo, (blk_set hcell 0 _).trans rfl, ?_, fun y hy => ?_⟩, hfs2⟩
  · rw [List.length_append, List.flatMap_append]
    refine ⟨by simpa [SA.cells] using hown.1, ?_⟩
    rcases hown.2 with ⟨h1, h2⟩ | ⟨g, cap, cur, h1, h2, h3, h4⟩
    · exact absurd h2 (by omega)
    · refine .inr ⟨g, cap, cur, by simpa using h1, h2, ?_, by simpa [SA.cells] using h4⟩
      have hgne : g ≠ g0 := fun e => by
        subst e
        rw [hcell] at h3
        simp at h3
      exact (Below.heap_setCell _ _ _ _ hgne).trans h3
  · rcases List.mem_append.1 hy with hy | hy
    · exact (H.rows y hy).fs hfs2
    · obtain rfl := List.mem_singleton.1 hy
      exact hx.fs hfs2
end Go.Proofs.Ytkjliijcnllohaa.S
