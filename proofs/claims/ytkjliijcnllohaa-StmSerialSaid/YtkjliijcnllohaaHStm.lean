/- stm: what lies in memory for a space, a transaction and a slot; the small functions. -/
import Derived.Test.YtkjliijcnllohaaPStmLocksx1
import Derived.Test.YtkjliijcnllohaaHMap
import Derived.Handy
namespace Go.Proofs.Ytkjliijcnllohaa.S
open Go.RowKit Go.Proofs.YtkjliijcnllohaaW.PrintWords Go.Proofs.YtkjliijcnllohaaW.PrintLast Go.Proofs.YtkjliijcnllohaaW.PrintMore
set_option linter.unusedVariables false
set_option linter.unusedSimpArgs false

/-- What a step may touch: the blocks of T; no row of bytes that was there. -/
structure Fr (T : List Nat) (w w' : World) : Prop where
  os : w'.os = w.os
  tape : w'.tape = w.tape
  output : w'.output = w.output
  size : w.heap.size ≤ w'.heap.size
  block : ∀ k, k < w.heap.size → k ∉ T → w'.heap[k]? = w.heap[k]?
  rows : ∀ (k : Nat) (c : Array Value) fz, w.heap[k]? = some (.cells c 5 fz) → w'.heap[k]? = some (.cells c 5 fz)
  kinds : ∀ (k : Nat) (c : Array Value) ty fz, w.heap[k]? = some (.cells c ty fz) → ∃ c', w'.heap[k]? = some (.cells c' ty fz)
theorem Fr.refl (T : List Nat) (w : World) : Fr T w w := ⟨rfl, rfl, rfl, Nat.le_refl _, fun _ _ _ => rfl, fun _ _ _ h => h, fun _ c _ _ h => ⟨c, h⟩⟩
theorem Fr.trans {T : List Nat} {a b c : World} (h : Fr T a b) (k : Fr T b c) : Fr T a c :=
  ⟨k.os.trans h.os, k.tape.trans h.tape, k.output.trans h.output, Nat.le_trans h.size k.size, fun i hi hT => (k.block i (Nat.lt_of_lt_of_le hi h.size) hT).trans (h.block i hi hT), fun i c fz hi => k.rows i c fz (h.rows i c fz hi), fun i c ty fz hi => by
    obtain ⟨c', h'⟩ := h.kinds i c ty fz hi
    exact k.kinds i c' ty fz h'⟩
theorem Fr.mono {T T' : List Nat} {a b : World} (h : Fr T a b) (hT : ∀ k, k < a.heap.size → k ∈ T → k ∈ T') : Fr T' a b :=
  ⟨h.os, h.tape, h.output, h.size, fun k hk hn => h.block k hk (fun hm => hn (hT k hk hm)), h.rows, h.kinds⟩
theorem Fr.alloc (T : List Nat) (w : World) (o : Obj) : Fr T w (w.alloc o) :=
  ⟨rfl, rfl, rfl, by simp, fun k hk _ => heap_alloc_old w o hk, fun k c fz hk => (heap_alloc_old w o (Array.getElem?_eq_some_iff.1 hk).1).trans hk, fun k c ty fz hk => ⟨c, (heap_alloc_old w o (Array.getElem?_eq_some_iff.1 hk).1).trans hk⟩⟩
theorem Fr.but1 {b : Nat} {w w' : World} (h : But1 b w w') (hb : ∀ (c : Array Value) ty fz, w.heap[b]? ≠ some (.cells c ty fz)) : Fr [b] w w' :=
  ⟨h.os, h.tape, h.output, by rw [h.size]; exact Nat.le_refl _, fun k _ hk => h.block k (by simpa using hk), fun k c fz hk => by
    by_cases e : k = b
    · subst e; exact absurd hk (hb c 5 fz)
    · rw [h.block k e]; exact hk, fun k c ty fz hk => by
    by_cases e : k = b
    · subst e; exact absurd hk (hb c ty fz)
    · exact ⟨c, by rw [h.block k e]; exact hk⟩⟩
theorem Fr.set {w : World} {b : Nat} {cs : Array Value} {t : TypeId} (hb : w.heap[b]? = some (.cells cs t (0, 0))) (ht : t ≠ 5) (i : Nat) (v : Value) : Fr [b] w (w.setCell ⟨b, i, none⟩ v) :=
  ⟨rfl, rfl, rfl, by simp [World.setCell], fun k _ hk => Below.heap_setCell _ _ _ _ (by simpa using hk), fun k c fz' hk => by
    by_cases e : k = b
    · subst e
      rw [hb] at hk
      simp only [Option.some.injEq, Obj.cells.injEq] at hk
      exact absurd hk.2.1 ht
    · exact (Below.heap_setCell _ _ _ _ e).trans hk, fun k c ty fz' hk => by
    by_cases e : k = b
    · subst e
      rw [hb] at hk
      simp only [Option.some.injEq, Obj.cells.injEq] at hk
      obtain ⟨-, rfl, rfl⟩ := hk
      exact ⟨_, blk_set hb i v⟩
    · exact ⟨c, (Below.heap_setCell _ _ _ _ e).trans hk⟩⟩
theorem Fr.below {T : List Nat} {w w' : World} (h : Fr T w w') {B : Nat} (hB : B ≤ w.heap.size) (hT : ∀ k ∈ T, B ≤ k) : Below B w w' :=
  ⟨h.os, h.tape, h.output, h.size, fun k hk => h.block k (by omega) (fun hm => by have := hT k hm; omega)⟩
theorem Fr.get {T : List Nat} {w w' : World} (h : Fr T w w') {k : Nat} {o : Obj} (hk : w.heap[k]? = some o) (hT : k ∉ T) : w'.heap[k]? = some o :=
  (h.block k (Array.getElem?_eq_some_iff.1 hk).1 hT).trans hk

/-- A row of bytes in a block of its own. -/
def RowAt (w : World) (v : Value) (xs : List Int) : Prop :=
  xs.length ≤ 140737488355328 ∧ ((v = .slice none 0 0 ∧ xs = []) ∨ ∃ g c cur, v = .slice (some ⟨g, 0, none⟩) xs.length c ∧ w.heap[g]? = some (.cells cur 5 (0, 0)) ∧ ∀ i, i < xs.length → cur[i]? = some (.int .u8 (xs.getD i 0)))
theorem RowAt.fr {T : List Nat} {w w' : World} {v : Value} {xs : List Int} (h : RowAt w v xs) (hf : Fr T w w') : RowAt w' v xs := by
  refine ⟨h.1, ?_⟩
  rcases h.2 with h | ⟨g, c, cur, rfl, hb, hc⟩
  · exact .inl h
  · exact .inr ⟨g, c, cur, rfl, hf.rows _ _ _ hb, hc⟩
theorem RowAt.nil (w : World) : RowAt w (.slice none 0 0) [] := ⟨by simp, .inl ⟨rfl, rfl⟩⟩

/-- A slot of a space. -/
structure Ent where
  name : ByteArray
  g : Nat
  ver : Int
  v : Value
  had : Bool
  lock : Option Nat
  bs : List Int
def ptr (b : Nat) : Value := .pointer (some ⟨b, 0, none⟩)
def lockV : Option Nat → Value
  | none => .pointer none
  | some b => ptr b
def Ent.pair (x : Ent) : ByteArray × Value := (x.name, ptr x.g)
def Ent.obj (x : Ent) : Obj := .cells #[.int .i64 x.ver, x.v, .bool x.had, lockV x.lock] 82 (0, 0)
/-- A space in memory. -/
structure SpAt (w : World) (s bm : Nat) (clock : Int) (S : List Ent) : Prop where
  sp : w.heap[s]? = some (.cells #[.map (some bm), .int .i64 clock] 63 (0, 0))
  mp : MapIs w bm (S.map Ent.pair)
  slot : ∀ x ∈ S, w.heap[x.g]? = some x.obj
  apart : S.Pairwise fun x y => x.g ≠ y.g
  locks : ∀ x ∈ S, ∀ b, x.lock = some b → ∃ ca, w.heap[b]? = some (.cells ca 67 (0, 0))
  rows : ∀ x ∈ S, RowAt w x.v x.bs
def TxAt (w : World) (t s : Nat) (time phase : Int) (br bw : Nat) : Prop := w.heap[t]? = some (.cells #[ptr s, .int .i64 time, .int .i64 phase, .map (some br), .map (some bw)] 67 (0, 0))

theorem MapIs.lt {w : World} {b : Nat} {m : List (ByteArray × Value)} (h : MapIs w b m) : b < w.heap.size := by
  obtain ⟨es, c, hb, _⟩ := h
  exact (Array.getElem?_eq_some_iff.1 hb).1
theorem MapIs.fr {T : List Nat} {w w' : World} {b : Nat} {m : List (ByteArray × Value)} (h : MapIs w b m) (hf : Fr T w w') (hb : b ∉ T) : MapIs w' b m := by
  obtain ⟨es, c, h1, h2, h3⟩ := h
  exact ⟨es, c, hf.get h1 hb, h2, h3⟩
theorem MapIs.norow {w : World} {b : Nat} {m : List (ByteArray × Value)} (h : MapIs w b m) (c : Array Value) (ty : TypeId) (fz : Nat × Nat) : w.heap[b]? ≠ some (.cells c ty fz) := by
  obtain ⟨es, cl, h1, _⟩ := h
  rw [h1]; simp
theorem MapIs.new (w : World) : MapIs (w.alloc (.map #[] 0)) w.heap.size [] := ⟨#[], 0, heap_alloc_new w _, MapKept.stamped_empty 0, rfl⟩
theorem SpAt.fr {T : List Nat} {w w' : World} {s bm : Nat} {clock : Int} {S : List Ent} (h : SpAt w s bm clock S) (hf : Fr T w w') (hs : s ∉ T) (hb : bm ∉ T) (hg : ∀ x ∈ S, x.g ∉ T) : SpAt w' s bm clock S :=
  ⟨hf.get h.sp hs, h.mp.fr hf hb, fun x hx => hf.get (h.slot x hx) (hg x hx), h.apart, fun x hx b hb => by
    obtain ⟨ca, hc⟩ := h.locks x hx b hb
    exact hf.kinds b ca 67 _ hc, fun x hx => (h.rows x hx).fr hf⟩

def fitB (name : ByteArray) : Bool := !name.toList.isEmpty && decide (name.size ≤ 11)
theorem fit_calls (name : ByteArray) (w : World) : Calls Try.prog 34 #[.string name] w fun e w' => e = .returned (.bool (fitB name)) ∧ Drawn0 w w' := by
  refine PStmLocks.stm_fit.calls name (fitB name) w ?_
  unfold PStmLocks.stm_fit.f fitB
  by_cases h : name.toList = ([] : List UInt8)
  · rw [if_pos h, h]; rfl
  · rw [if_neg h]
    have : name.toList.isEmpty = false := by rw [Bool.eq_false_iff]; intro e; exact h (List.isEmpty_iff.1 e)
    rw [this]
    congr 1
    simp only [Bool.not_false, Bool.true_and]
    exact decide_eq_decide.2 (by omega)
section
variable {w : World} {t s bm br bw : Nat} {time phase clock : Int} {S : List Ent}
theorem TxAt.c0 (h : TxAt w t s time phase br bw) : w.cell? ⟨t, 0, none⟩ = some (.pointer (some ⟨s, 0, none⟩)) := (blk_cell h 0).trans rfl
theorem TxAt.c1 (h : TxAt w t s time phase br bw) : w.cell? ⟨t, 1, none⟩ = some (.int .i64 time) := (blk_cell h 1).trans rfl
theorem TxAt.c2 (h : TxAt w t s time phase br bw) : w.cell? ⟨t, 2, none⟩ = some (.int .i64 phase) := (blk_cell h 2).trans rfl
theorem TxAt.c3 (h : TxAt w t s time phase br bw) : w.cell? ⟨t, 3, none⟩ = some (.map (some br)) := (blk_cell h 3).trans rfl
theorem TxAt.c4 (h : TxAt w t s time phase br bw) : w.cell? ⟨t, 4, none⟩ = some (.map (some bw)) := (blk_cell h 4).trans rfl
theorem TxAt.fz (h : TxAt w t s time phase br bw) (i : Nat) : w.frozen? ⟨t, i, none⟩ = false := blk_frozen h i
theorem TxAt.lt (h : TxAt w t s time phase br bw) : t < w.heap.size := blk_lt h
theorem TxAt.fr {T : List Nat} {w' : World} (h : TxAt w t s time phase br bw) (hf : Fr T w w') (ht : t ∉ T) : TxAt w' t s time phase br bw := hf.get h ht
theorem SpAt.c0 (h : SpAt w s bm clock S) : w.cell? ⟨s, 0, none⟩ = some (.map (some bm)) := (blk_cell h.sp 0).trans rfl
theorem SpAt.c1 (h : SpAt w s bm clock S) : w.cell? ⟨s, 1, none⟩ = some (.int .i64 clock) := (blk_cell h.sp 1).trans rfl
theorem SpAt.fz (h : SpAt w s bm clock S) (i : Nat) : w.frozen? ⟨s, i, none⟩ = false := blk_frozen h.sp i
theorem SpAt.lt (h : SpAt w s bm clock S) : s < w.heap.size := blk_lt h.sp
theorem Ent.c0 {x : Ent} (h : w.heap[x.g]? = some x.obj) : w.cell? ⟨x.g, 0, none⟩ = some (.int .i64 x.ver) := (blk_cell h 0).trans rfl
theorem Ent.c1 {x : Ent} (h : w.heap[x.g]? = some x.obj) : w.cell? ⟨x.g, 1, none⟩ = some x.v := (blk_cell h 1).trans rfl
theorem Ent.c2 {x : Ent} (h : w.heap[x.g]? = some x.obj) : w.cell? ⟨x.g, 2, none⟩ = some (.bool x.had) := (blk_cell h 2).trans rfl
theorem Ent.c3 {x : Ent} (h : w.heap[x.g]? = some x.obj) : w.cell? ⟨x.g, 3, none⟩ = some (lockV x.lock) := (blk_cell h 3).trans rfl
theorem Ent.fz {x : Ent} (h : w.heap[x.g]? = some x.obj) (i : Nat) : w.frozen? ⟨x.g, i, none⟩ = false := blk_frozen h i
end

set_option maxRecDepth 100000 in
theorem in_calls {w : World} {t s : Nat} {time phase : Int} {br bw : Nat} (h : TxAt w t s time phase br bw) (ph : Int) : Calls Try.prog 36 #[ptr t, .int .i64 ph] w fun e w' => e = .returned (.int .i64 (if phase = ph then 0 else 3)) ∧ w' = w := by
  have c0 := h.c0
  have c2 := h.c2
  unfold ptr
  by_cases hp : phase = ph
  · have hb : (phase != ph) = false := by simpa using hp
    rw [if_pos hp]
    clear h hp
    go_enter Try.func36, Try.ntmps36
    go_wp2
    go_returns
    exact ⟨rfl, rfl⟩
  · have hb : (phase != ph) = true := by simpa using hp
    rw [if_neg hp]
    clear h hp
    go_enter Try.func36, Try.ntmps36
    go_wp2
    go_returns
    exact ⟨rfl, rfl⟩
set_option maxRecDepth 100000 in
theorem phase_calls {w : World} {t s : Nat} {time phase : Int} {br bw : Nat} (h : TxAt w t s time phase br bw) : Calls Try.prog 13 #[ptr t] w fun e w' => e = .returned (.int .i64 phase) ∧ w' = w := by
  have c0 := h.c0
  have c2 := h.c2
  unfold ptr
  clear h
  go_enter Try.func13, Try.ntmps13
  go_wp2
  go_returns
  exact ⟨rfl, rfl⟩

/-- The slot of a name, made if there is none. -/
def hasName (S : List Ent) (name : ByteArray) : Bool := S.any fun x => decide (x.name = name)
def newEnt (name : ByteArray) (g : Nat) : Ent := ⟨name, g, 0, .slice none 0 0, false, none, []⟩
def ensure (S : List Ent) (name : ByteArray) (g : Nat) : List Ent := if hasName S name then S else S ++ [newEnt name g]
theorem get_pairs (S : List Ent) (name : ByteArray) : (hasName S name = false ∧ get? (S.map Ent.pair) name = none) ∨ ∃ x ∈ S, x.name = name ∧ hasName S name = true ∧ get? (S.map Ent.pair) name = some (ptr x.g) := by
  cases h : get? (S.map Ent.pair) name with
  | none =>
    refine .inl ⟨?_, rfl⟩
    have := get_none.1 h
    unfold hasName
    rw [List.any_eq_false]
    intro x hx
    have := this x.pair (List.mem_map.2 ⟨x, hx, rfl⟩)
    simpa [Ent.pair] using this
  | some v =>
    have := get_some_mem h
    obtain ⟨x, hx, hxp⟩ := List.mem_map.1 this
    simp only [Ent.pair, Prod.mk.injEq] at hxp
    refine .inr ⟨x, hx, hxp.1, ?_, by rw [hxp.2]⟩
    unfold hasName
    rw [List.any_eq_true]
    exact ⟨x, hx, by simpa using hxp.1⟩

theorem put_new {m : List (ByteArray × Value)} {s : ByteArray} (h : get? m s = none) (v : Value) : put m s v = m ++ [(s, v)] := by
  unfold put; rw [h]; rfl
theorem SpAt.s_ne {w : World} {s bm : Nat} {clock : Int} {S : List Ent} (h : SpAt w s bm clock S) : s ≠ bm := fun e => by
  obtain ⟨es, c, hb, _⟩ := h.mp
  have := h.sp
  rw [e, hb] at this
  cases this
theorem SpAt.g_ne {w : World} {s bm : Nat} {clock : Int} {S : List Ent} (h : SpAt w s bm clock S) {x : Ent} (hx : x ∈ S) : x.g ≠ bm := fun e => by
  obtain ⟨es, c, hb, _⟩ := h.mp
  have := h.slot x hx
  rw [e, hb] at this
  cases this
theorem SpAt.g_lt {w : World} {s bm : Nat} {clock : Int} {S : List Ent} (h : SpAt w s bm clock S) {x : Ent} (hx : x ∈ S) : x.g < w.heap.size := blk_lt (h.slot x hx)
theorem spAt_grow {w w1 : World} {s bm : Nat} {clock : Int} {S : List Ent} (h : SpAt w s bm clock S) {name : ByteArray} (hm : MapIs w1 bm (put (S.map Ent.pair) name (ptr w.heap.size))) {o : Obj} (hb : But1 bm (w.alloc o) w1) (x : Ent) (hx : x.g = w.heap.size ∧ x.name = name ∧ x.obj = o) (hl : x.lock = none ∧ x.v = .slice none 0 0 ∧ x.bs = []) (h2 : get? (S.map Ent.pair) name = none) : SpAt w1 s bm clock (S ++ [x]) := by
  obtain ⟨hg, hn, ho⟩ := hx
  have hlt := h.mp.lt
  have hfr : Fr [bm] w w1 := (Fr.alloc [bm] w o).trans (Fr.but1 hb (MapIs.norow (h.mp.fr (Fr.alloc [] w o) (by simp))))
  refine ⟨?_, ?_, ?_, ?_, ?_, ?_⟩
  · rw [hb.block _ h.s_ne, heap_alloc_old w _ h.lt]; exact h.sp
  · rw [put_new h2] at hm
    rw [List.map_append]
    have : List.map Ent.pair [x] = [(name, ptr w.heap.size)] := by simp [Ent.pair, hn, hg]
    rw [this]; exact hm
  · intro y hy
    rcases List.mem_append.1 hy with hy | hy
    · rw [hb.block _ (h.g_ne hy), heap_alloc_old w _ (h.g_lt hy)]; exact h.slot y hy
    · obtain rfl := List.mem_singleton.1 hy
      rw [hb.block _ (by omega), hg, heap_alloc_new, ho]
  · rw [List.pairwise_append]
    refine ⟨h.apart, by simp, fun y hy z hz => ?_⟩
    obtain rfl := List.mem_singleton.1 hz
    have := h.g_lt hy
    omega
  · intro y hy b hyb
    rcases List.mem_append.1 hy with hy | hy
    · obtain ⟨ca, hc⟩ := h.locks y hy b hyb
      exact hfr.kinds b ca 67 _ hc
    · obtain rfl := List.mem_singleton.1 hy
      rw [hl.1] at hyb; cases hyb
  · intro y hy
    rcases List.mem_append.1 hy with hy | hy
    · exact (h.rows y hy).fr hfr
    · obtain rfl := List.mem_singleton.1 hy
      rw [hl.2.1, hl.2.2]
      exact RowAt.nil _

set_option maxRecDepth 100000 in
set_option maxHeartbeats 1000000 in
theorem at_calls {w : World} {s bm : Nat} {clock : Int} {S : List Ent} (h : SpAt w s bm clock S) (name : ByteArray) :
    Calls Try.prog 37 #[ptr s, .string name] w fun e w' => ∃ x ∈ ensure S name w.heap.size, x.name = name ∧ e = .returned (ptr x.g) ∧ SpAt w' s bm clock (ensure S name w.heap.size) ∧ Fr [bm] w w' := by
  have c0 := h.c0
  have hl : (Instr.lookup 61 (.map (some bm)) (.string name) false).run Try.prog w = .ok ((get? (S.map Ent.pair) name).getD (.pointer none)) w := map_lookup Try.underlying61 Try.underlying9 (Try.zeroValue78 w) h.mp name false
  unfold ptr
  rcases get_pairs S name with ⟨h1, h2⟩ | ⟨x, hx, hxn, h1, h2⟩
  · rw [h2] at hl
    simp only [Option.getD_none] at hl
    have hS : ensure S name w.heap.size = S ++ [newEnt name w.heap.size] := by unfold ensure; rw [h1]; rfl
    have ha := Fr.alloc [bm] w (newEnt name w.heap.size).obj
    obtain ⟨w1, hu, hm1, hb1⟩ := map_update (P := Try.prog) Try.underlying61 Try.underlying9 (h.mp.fr (Fr.alloc [] w (newEnt name w.heap.size).obj) (by simp)) name (ptr w.heap.size)
    have hu' : (Instr.mapUpdate 61 (.map (some bm)) (.string name) (.pointer (some ⟨w.heap.size, 0, none⟩))).run Try.prog (w.alloc (.cells #[.int .i64 0, .slice none 0 0, .bool false, .pointer none] 82)) = .ok () w1 := hu
    have H := Aside0.mk h
    have HM := Aside0.mk hm1
    have HB := Aside0.mk hb1
    have H2 := Aside0.mk h2
    have HS := Aside0.mk hS
    have hc : (w.alloc (.cells #[.int .i64 0, .slice none 0 0, .bool false, .pointer none] 82)).cell? ⟨s, 0, none⟩ = some (.map (some bm)) := (World.cell?_alloc_lt w _ _ h.lt).trans c0
    clear h hu hm1 hb1 h1 h2 hS ha
    go_enter Try.func37, Try.ntmps37
    go_wp2
    go_returns
    rw [HS.out]
    refine ⟨newEnt name w.heap.size, by simp, rfl, rfl, spAt_grow H.out HM.out HB.out (newEnt name w.heap.size) ⟨rfl, rfl, rfl⟩ ⟨rfl, rfl, rfl⟩ H2.out, ?_⟩
    exact (Fr.alloc [bm] w _).trans (Fr.but1 HB.out (MapIs.norow (H.out.mp.fr (Fr.alloc [] w (newEnt name w.heap.size).obj) (by simp))))
  · rw [h2] at hl
    simp only [Option.getD_some, ptr] at hl
    have hS : ensure S name w.heap.size = S := by unfold ensure; rw [h1]; rfl
    have H := Aside0.mk h
    have HS := Aside0.mk hS
    have HX := Aside0.mk (And.intro hx hxn)
    clear h hx hxn h1 h2 hS
    go_enter Try.func37, Try.ntmps37
    go_wp2
    go_returns
    rw [HS.out]
    exact ⟨x, HX.out.1, HX.out.2, rfl, H.out, Fr.refl _ _⟩
end Go.Proofs.Ytkjliijcnllohaa.S
