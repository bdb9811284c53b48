/- heap: what lies in memory for a heap with one root, all of whose objects have fields; the small functions. -/
import Derived.Test.YtlghnldlkbgajaaHNob
import Derived.Test.YtlghnldlkbgajaaHMap
namespace Go.Proofs.Ytlghnldlkbgajaa.S
open Go.RowKit Go.Proofs.YtlghnldlkbgajaaW.PrintWords Go.Proofs.YtlghnldlkbgajaaW.PrintLast Go.Proofs.YtlghnldlkbgajaaW.PrintMore
set_option linter.unusedVariables false
set_option linter.unusedSimpArgs false

/-- What a step may touch: the blocks of T. -/
structure Fr (T : List Nat) (w w' : World) : Prop where
  os : w'.os = w.os
  tape : w'.tape = w.tape
  output : w'.output = w.output
  size : w.heap.size ≤ w'.heap.size
  block : ∀ k, k < w.heap.size → k ∉ T → w'.heap[k]? = w.heap[k]?
theorem Fr.refl (T : List Nat) (w : World) : Fr T w w := ⟨rfl, rfl, rfl, Nat.le_refl _, fun _ _ _ => rfl⟩
theorem Fr.trans {T : List Nat} {a b c : World} (h : Fr T a b) (k : Fr T b c) : Fr T a c :=
  ⟨k.os.trans h.os, k.tape.trans h.tape, k.output.trans h.output, Nat.le_trans h.size k.size, fun i hi hT => (k.block i (Nat.lt_of_lt_of_le hi h.size) hT).trans (h.block i hi hT)⟩
theorem Fr.mono {T T' : List Nat} {a b : World} (h : Fr T a b) (hT : ∀ k, k < a.heap.size → k ∈ T → k ∈ T') : Fr T' a b :=
  ⟨h.os, h.tape, h.output, h.size, fun k hk hn => h.block k hk (fun hm => hn (hT k hk hm))⟩
theorem Fr.alloc (T : List Nat) (w : World) (o : Obj) : Fr T w (w.alloc o) :=
  ⟨rfl, rfl, rfl, by simp, fun k hk _ => heap_alloc_old w o hk⟩
theorem Fr.but1 {b : Nat} {w w' : World} (h : But1 b w w') : Fr [b] w w' :=
  ⟨h.os, h.tape, h.output, by rw [h.size]; exact Nat.le_refl _, fun k _ hk => h.block k (by simpa using hk)⟩
theorem Fr.set (w : World) (b : Nat) (i : Nat) (v : Value) : Fr [b] w (w.setCell ⟨b, i, none⟩ v) :=
  ⟨rfl, rfl, rfl, by simp [World.setCell], fun k _ hk => Below.heap_setCell _ _ _ _ (by simpa using hk)⟩
theorem Fr.below {T : List Nat} {w w' : World} (h : Fr T w w') {B : Nat} (hB : B ≤ w.heap.size) (hT : ∀ k ∈ T, B ≤ k) : Below B w w' :=
  ⟨h.os, h.tape, h.output, h.size, fun k hk => h.block k (by omega) (fun hm => by have := hT k hm; omega)⟩
theorem Fr.ofBelow {w w' : World} (h : Below w.heap.size w w') (T : List Nat) : Fr T w w' :=
  ⟨h.os, h.tape, h.output, h.size, fun k hk _ => h.block k hk⟩
theorem Fr.get {T : List Nat} {w w' : World} (h : Fr T w w') {k : Nat} {o : Obj} (hk : w.heap[k]? = some o) (hT : k ∉ T) : w'.heap[k]? = some o :=
  (h.block k (Array.getElem?_eq_some_iff.1 hk).1 hT).trans hk
theorem Fr.drew (T : List Nat) (w : World) : Fr T w w.drew := ⟨rfl, rfl, rfl, Nat.le_refl _, fun _ _ _ => rfl⟩
theorem Fr.drewN (T : List Nat) (w : World) (n : Nat) : Fr T w (w.drewN n) := ⟨rfl, rfl, rfl, Nat.le_refl _, fun _ _ _ => rfl⟩
theorem MapIs.fr {T : List Nat} {w w' : World} {b : Nat} {m : List (Int × Value)} (h : MapIs w b m) (hf : Fr T w w') (hb : b ∉ T) : MapIs w' b m := by
  obtain ⟨es, c, h1, h2, h3⟩ := h
  exact ⟨es, c, hf.get h1 hb, h2, h3⟩
theorem MapIs.norow {w : World} {b : Nat} {m : List (Int × Value)} (h : MapIs w b m) (c : Array Value) (ty : TypeId) (fz : Nat × Nat) : w.heap[b]? ≠ some (.cells c ty fz) := by
  obtain ⟨es, cl, h1, _⟩ := h
  rw [h1]; simp
theorem MapIs.new (w : World) : MapIs (w.alloc (.map #[] 0)) w.heap.size [] := ⟨#[], 0, heap_alloc_new w _, MapKept.stamped_empty 0, rfl⟩

def ptr (b : Nat) : Value := .pointer (some ⟨b, 0, none⟩)
/-- An object with fields: its word, its block, its kind, its fields, their row's block and room. -/
structure Ob where
  k : Int
  t : Nat
  kind : Int
  fs : List Int
  fb : Nat
  fc : Nat
def Ob.obj (x : Ob) : Obj := .cells #[.int .i64 x.kind, .slice (some ⟨x.fb, 0, none⟩) x.fs.length x.fc, .string ⟨#[]⟩, .bool false, .bool false] 78 (0, 0)
def Ob.pair (x : Ob) : Int × Value := (x.k, ptr x.t)
/-- A row of words in a block of its own. -/
def Row (w : World) (b : Nat) (l : List Int) : Prop := ∃ cur, w.heap[b]? = some (.cells cur 28 (0, 0)) ∧ ∀ i, i < l.length → cur[i]? = some (.int .i64 (l.getD i 0))
theorem Row.fr {T : List Nat} {w w' : World} {b : Nat} {l : List Int} (h : Row w b l) (hf : Fr T w w') (hb : b ∉ T) : Row w' b l := by
  obtain ⟨cur, h1, h2⟩ := h
  exact ⟨cur, hf.get h1 hb, h2⟩
theorem Row.cell {w : World} {b : Nat} {l : List Int} (h : Row w b l) {i : Nat} (hi : i < l.length) : w.cell? ⟨b, i, none⟩ = some (.int .i64 (l.getD i 0)) := by
  obtain ⟨cur, h1, h2⟩ := h
  exact (blk_cell h1 i).trans (h2 i hi)
theorem Row.fz {w : World} {b : Nat} {l : List Int} (h : Row w b l) (i : Nat) : w.frozen? ⟨b, i, none⟩ = false := by
  obtain ⟨cur, h1, h2⟩ := h
  exact blk_frozen h1 i
theorem Row.lt {w : World} {b : Nat} {l : List Int} (h : Row w b l) : b < w.heap.size := by
  obtain ⟨cur, h1, h2⟩ := h
  exact blk_lt h1

def hpObj (b rb rc : Nat) (nx u : Int) : Obj := .cells #[.map (some b), .int .i64 nx, .slice (some ⟨rb, 0, none⟩) 1 rc, .int .i64 32, .int .i64 1000, .int .i64 u, .int .i64 0, .int .i64 0, .int .i64 0, .bool false] 66 (0, 0)
/-- A heap with one root. -/
structure HpAt (w : World) (g b rb rc : Nat) (L : List Ob) (nx r u : Int) : Prop where
  hp : w.heap[g]? = some (hpObj b rb rc nx u)
  mp : MapIs w b (L.map Ob.pair)
  rt : Row w rb [r]
  ob : ∀ x ∈ L, w.heap[x.t]? = some x.obj
  row : ∀ x ∈ L, Row w x.fb x.fs
  far : ∀ x ∈ L, x.fb ≠ rb
  low : ∀ x ∈ L, x.k < nx
theorem HpAt.fr {T : List Nat} {w w' : World} {g b rb rc : Nat} {L : List Ob} {nx r u : Int} (h : HpAt w g b rb rc L nx r u) (hf : Fr T w w') (hg : g ∉ T) (hb : b ∉ T) (hr : rb ∉ T) (ho : ∀ x ∈ L, x.t ∉ T ∧ x.fb ∉ T) : HpAt w' g b rb rc L nx r u :=
  ⟨hf.get h.hp hg, h.mp.fr hf hb, h.rt.fr hf hr, fun x hx => hf.get (h.ob x hx) (ho x hx).1, fun x hx => (h.row x hx).fr hf (ho x hx).2, h.far, h.low⟩
theorem HpAt.fr0 {w w' : World} {g b rb rc : Nat} {L : List Ob} {nx r u : Int} (h : HpAt w g b rb rc L nx r u) (hf : Fr [] w w') : HpAt w' g b rb rc L nx r u :=
  h.fr hf (by simp) (by simp) (by simp) (by simp)
section
variable {w : World} {g b rb rc : Nat} {L : List Ob} {nx r u : Int}
theorem HpAt.lt (h : HpAt w g b rb rc L nx r u) : g < w.heap.size := blk_lt h.hp
theorem HpAt.c0 (h : HpAt w g b rb rc L nx r u) : w.cell? ⟨g, 0, none⟩ = some (.map (some b)) := (blk_cell h.hp 0).trans rfl
theorem HpAt.c1 (h : HpAt w g b rb rc L nx r u) : w.cell? ⟨g, 1, none⟩ = some (.int .i64 nx) := (blk_cell h.hp 1).trans rfl
theorem HpAt.c2 (h : HpAt w g b rb rc L nx r u) : w.cell? ⟨g, 2, none⟩ = some (.slice (some ⟨rb, 0, none⟩) 1 rc) := (blk_cell h.hp 2).trans rfl
theorem HpAt.c3 (h : HpAt w g b rb rc L nx r u) : w.cell? ⟨g, 3, none⟩ = some (.int .i64 32) := (blk_cell h.hp 3).trans rfl
theorem HpAt.c5 (h : HpAt w g b rb rc L nx r u) : w.cell? ⟨g, 5, none⟩ = some (.int .i64 u) := (blk_cell h.hp 5).trans rfl
theorem HpAt.c9 (h : HpAt w g b rb rc L nx r u) : w.cell? ⟨g, 9, none⟩ = some (.bool false) := (blk_cell h.hp 9).trans rfl
theorem HpAt.fz (h : HpAt w g b rb rc L nx r u) (i : Nat) : w.frozen? ⟨g, i, none⟩ = false := blk_frozen h.hp i
theorem HpAt.r0 (h : HpAt w g b rb rc L nx r u) : w.cell? ⟨rb, 0, none⟩ = some (.int .i64 r) := h.rt.cell (i := 0) (by simp)
theorem HpAt.look (h : HpAt w g b rb rc L nx r u) {x : Ob} (hx : x ∈ L) : (Instr.lookup 63 (.map (some b)) (.int .i64 x.k) false).run Try.prog w = .ok (ptr x.t) w := by
  have hl := map_lookup (P := Try.prog) Try.underlying63 Try.underlying28 (Try.zeroValue75 w) h.mp x.k false
  obtain ⟨es, cl, h1, h2, h3⟩ := h.mp
  rw [get_of_mem (pairs_apart h2 h3) (List.mem_map.2 ⟨x, hx, rfl⟩ : (x.k, ptr x.t) ∈ L.map Ob.pair)] at hl
  exact hl
theorem HpAt.miss (h : HpAt w g b rb rc L nx r u) {k : Int} (hk : ∀ x ∈ L, x.k ≠ k) : get? (L.map Ob.pair) k = none := by
  rw [get_none]
  intro p hp
  obtain ⟨x, hx, rfl⟩ := List.mem_map.1 hp
  exact hk x hx
theorem HpAt.lookNo (h : HpAt w g b rb rc L nx r u) {k : Int} (hk : ∀ x ∈ L, x.k ≠ k) : (Instr.lookup 63 (.map (some b)) (.int .i64 k) false).run Try.prog w = .ok (.pointer none) w := by
  have hl := map_lookup (P := Try.prog) Try.underlying63 Try.underlying28 (Try.zeroValue75 w) h.mp k false
  rw [h.miss hk] at hl
  exact hl
end

set_option maxRecDepth 100000 in
theorem made_ok {w : World} {g b rb rc : Nat} {L : List Ob} {nx r u : Int} (h : HpAt w g b rb rc L nx r u) : Calls Try.prog 31 #[ptr g] w fun e w' => e = .returned (.bool true) ∧ w' = w := by
  have c0 := h.c0
  have hmn : (binOp .neq 63 (.map (some b)) (.map none)).run Try.prog w = .ok (.bool true) w := run_neq_map_nil w 63 28 75 (some b) Try.underlying63
  unfold ptr
  clear h
  go_enter Try.func31, Try.ntmps31
  go_wp2
  go_returns
  exact ⟨rfl, rfl⟩
set_option maxRecDepth 100000 in
theorem there_odd {w : World} (p : Value) (x : Int) (hx : (bits BinOp.and .i64 x 1 == 1) = true) : Calls Try.prog 32 #[p, .int .i64 x] w fun e w' => e = .returned (.bool true) ∧ w' = w := by
  go_enter Try.func32, Try.ntmps32
  go_wp2
  go_returns
  exact ⟨rfl, rfl⟩
set_option maxRecDepth 100000 in
theorem there_zero {w : World} (p : Value) : Calls Try.prog 32 #[p, .int .i64 0] w fun e w' => e = .returned (.bool true) ∧ w' = w := by
  go_enter Try.func32, Try.ntmps32
  go_wp2
  go_returns
  exact ⟨rfl, rfl⟩
set_option maxRecDepth 100000 in
theorem there_ok {w : World} {g b rb rc : Nat} {L : List Ob} {nx r u : Int} (h : HpAt w g b rb rc L nx r u) {x : Ob} (hx : x ∈ L) (hand : (bits BinOp.and .i64 x.k 1 == 1) = false) (hpos : 0 < x.k) : Calls Try.prog 32 #[ptr g, .int .i64 x.k] w fun e w' => e = .returned (.bool true) ∧ w' = w := by
  have c0 := h.c0
  have hl := h.look hx
  unfold ptr at *
  have hle : decide (x.k ≤ 0) = false := decide_eq_false (by omega)
  clear h hx
  generalize x.k = xk at *
  go_enter Try.func32, Try.ntmps32
  go_wp2
  go_returns
  exact ⟨rfl, rfl⟩
set_option maxRecDepth 100000 in
theorem root_ok {w : World} {g b rb rc : Nat} {L : List Ob} {nx r u : Int} (h : HpAt w g b rb rc L nx r u) : Calls Try.prog 11 #[ptr g, .int .i64 0] w fun e w' => e = .returned (.int .i64 r) ∧ w' = w := by
  have c2 := h.c2
  have r0 := h.r0
  have H := Aside0.mk h
  unfold ptr
  clear h
  go_enter Try.func11, Try.ntmps11
  go_wp2_with fail
  refine (made_ok H.out).mono ?_
  rintro e w1 ⟨rfl, rfl⟩
  go_wp2_with fail
  go_returns
  exact ⟨rfl, rfl⟩
set_option maxRecDepth 100000 in
theorem find_ok {w : World} {g b rb rc : Nat} {L : List Ob} {nx r u : Int} (h : HpAt w g b rb rc L nx r u) {x : Ob} (hx : x ∈ L) : Calls Try.prog 36 #[ptr g, .int .i64 x.k] w fun e w' => e = .returned (ptr x.t) ∧ w' = w := by
  have c0 := h.c0
  have hl := h.look hx
  have H := Aside0.mk h
  unfold ptr at *
  clear h hx
  generalize x.k = xk at *
  generalize x.t = xt at *
  go_enter Try.func36, Try.ntmps36
  go_wp2_with fail
  refine (made_ok H.out).mono ?_
  rintro e w1 ⟨rfl, rfl⟩
  go_wp2_with fail
  go_returns
  exact ⟨rfl, rfl⟩
set_option maxRecDepth 100000 in
theorem find_no1 {w : World} {g b rb rc : Nat} {L : List Ob} {nx r u : Int} (h : HpAt w g b rb rc L nx r u) {k : Int} (hk : ∀ x ∈ L, x.k ≠ k) : Calls Try.prog 36 #[ptr g, .int .i64 k] w fun e w' => ∃ v, e = .returned v ∧ NoObj w w' v := by
  have c0 := h.c0
  have hl := h.lookNo hk
  have H := Aside0.mk h
  unfold ptr at *
  clear h hk
  go_enter Try.func36, Try.ntmps36
  go_wp2_with fail
  refine (made_ok H.out).mono ?_
  rintro e w1 ⟨rfl, rfl⟩
  go_wp2_with fail
  go_returns
  exact ⟨_, rfl, (Below.refl _ w1).alloc (Nat.le_refl _) _, _, rfl, Array.getElem?_push_size⟩
set_option maxRecDepth 100000 in
theorem kind_ok {w : World} {g b rb rc : Nat} {L : List Ob} {nx r u : Int} (h : HpAt w g b rb rc L nx r u) {x : Ob} (hx : x ∈ L) : Calls Try.prog 13 #[ptr g, .int .i64 x.k] w fun e w' => e = .returned (.int .i64 x.kind) ∧ w' = w := by
  have H := Aside0.mk (find_ok h hx)
  have c0 : w.cell? ⟨x.t, 0, none⟩ = some (.int .i64 x.kind) := (blk_cell (h.ob x hx) 0).trans rfl
  unfold ptr at *
  clear h hx
  generalize x.k = xk at *
  generalize x.t = xt at *
  generalize x.kind = kd at *
  go_enter Try.func13, Try.ntmps13
  go_wp2_with fail
  refine H.out.mono ?_
  rintro e w1 ⟨rfl, rfl⟩
  go_wp2_with fail
  go_returns
  exact ⟨rfl, rfl⟩
set_option maxRecDepth 100000 in
theorem kind_no1 {w : World} {g b rb rc : Nat} {L : List Ob} {nx r u : Int} (h : HpAt w g b rb rc L nx r u) {k : Int} (hk : ∀ x ∈ L, x.k ≠ k) : Calls Try.prog 13 #[ptr g, .int .i64 k] w fun e w' => e = .returned (.int .i64 0) ∧ Below w.heap.size w w' := by
  have H := Aside0.mk (find_no1 h hk)
  unfold ptr at *
  clear h hk
  go_enter Try.func13, Try.ntmps13
  go_wp2_with fail
  refine H.out.mono ?_
  rintro e w1 ⟨v, rfl, hb, t, rfl, ht⟩
  have HB := Aside0.mk hb
  clear hb
  have c0 : w1.cell? ⟨t, 0, none⟩ = some (.int .i64 0) := (blk_cell ht 0).trans rfl
  clear ht
  go_wp2_with fail
  go_returns
  exact ⟨rfl, HB.out⟩
set_option maxRecDepth 100000 in
theorem field_ok {w : World} {g b rb rc : Nat} {L : List Ob} {nx r u : Int} (h : HpAt w g b rb rc L nx r u) {x : Ob} (hx : x ∈ L) (hkind : x.kind ≠ 0) {i : Nat} (hi : i < x.fs.length) : Calls Try.prog 14 #[ptr g, .int .i64 x.k, .int .i64 i] w fun e w' => e = .returned (.tuple #[.int .i64 (x.fs.getD i 0), .int .i64 0]) ∧ w' = w := by
  have H0 := Aside0.mk (made_ok h)
  have H := Aside0.mk (find_ok h hx)
  have c0 : w.cell? ⟨x.t, 0, none⟩ = some (.int .i64 x.kind) := (blk_cell (h.ob x hx) 0).trans rfl
  have c1 : w.cell? ⟨x.t, 1, none⟩ = some (.slice (some ⟨x.fb, 0, none⟩) x.fs.length x.fc) := (blk_cell (h.ob x hx) 1).trans rfl
  have f0 := (h.row x hx).cell hi
  unfold ptr at *
  clear h hx
  generalize x.k = xk at *
  generalize x.t = xt at *
  generalize x.kind = kd at *
  generalize x.fb = xfb at *
  generalize x.fc = xfc at *
  generalize x.fs.getD i 0 = fv at *
  generalize x.fs.length = fn at *
  have hk0 : (kd == 0) = false := by simpa using hkind
  have hk1 : decide (kd = 0) = false := decide_eq_false hkind
  have hi0 : decide ((i : Int) < 0) = false := decide_eq_false (by omega)
  have hi1 : decide ((fn : Int) ≤ (i : Int)) = false := decide_eq_false (by omega)
  have hi2 : (i : Int) < (fn : Int) := by omega
  go_enter Try.func14, Try.ntmps14
  go_wp2_with fail
  refine H0.out.mono ?_
  rintro e w1 ⟨rfl, rfl⟩
  go_wp2_with fail
  refine H.out.mono ?_
  rintro e w1 ⟨rfl, rfl⟩
  go_wp2_with fail
  go_returns
  exact ⟨rfl, rfl⟩
end Go.Proofs.Ytlghnldlkbgajaa.S
