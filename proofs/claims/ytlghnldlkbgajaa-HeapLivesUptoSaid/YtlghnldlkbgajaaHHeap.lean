
/- heap: what lies in memory for a heap with one root, all of whose objects have fields; the small functions. -/
import Derived.Test.YtlghnldlkbgajaaHNob
import Derived.Test.YtlghnldlkbgajaaHMap
namespace Go.Proofs.Ytlghnldlkbgajaa.S
open Go.RowKit Go.Proofs.YtlghnldlkbgajaaW.PrintWords Go.Proofs.YtlghnldlkbgajaaW.PrintLast Go.Proofs.YtlghnldlkbgajaaW.PrintMore
set_option linter.unusedVariables false
set_option linter.unusedSimpArgs false

/-- What a step may touch: the blocks of T. -/
structure Fr (T : List Nat) (w w' : World) : Prop where
  os : w'.os = w.os
  tape : w'.tape = w.tape
  output : w'.output = w.output
  size : w.heap.size ≤ w'.heap.size
  block : ∀ k, k < w.heap.size → k ∉ T → w'.heap[k]? = w.heap[k]?
theorem Fr.refl (T : List Nat) (w : World) : Fr T w w := ⟨rfl, rfl, rfl, Nat.le_refl _, fun _ _ _ => rfl⟩
theorem Fr.trans {T : List Nat} {a b c : World} (h : Fr T a b) (k : Fr T b c) : Fr T a c :=
  ⟨k.os.trans h.os, k.tape.trans h.tape, k.output.trans h.output, Nat.le_trans h.size k.size, fun i hi hT => (k.block i (Nat.lt_of_lt_of_le hi h.size) hT).trans (h.block i hi hT)⟩
theorem Fr.mono {T T' : List Nat} {a b : World} (h : Fr T a b) (hT : ∀ k, k < a.heap.size → k ∈ T → k ∈ T') : Fr T' a b :=
  ⟨h.os, h.tape, h.output, h.size, fun k hk hn => h.block k hk (fun hm => hn (hT k hk hm))⟩
theorem Fr.alloc (T : List Nat) (w : World) (o : Obj) : Fr T w (w.alloc o) :=
  ⟨rfl, rfl, rfl, by simp, fun k hk _ => heap_alloc_old w o hk⟩
theorem Fr.but1 {b : Nat} {w w' : World} (h : But1 b w w') : Fr [b] w w' :=
  ⟨h.os, h.tape, h.output, by rw [h.size]; exact Nat.le_refl _, fun k _ hk => h.block k (by simpa using hk)⟩
theorem Fr.set (w : World) (b : Nat) (i : Nat) (v : Value) : Fr [b] w (w.setCell ⟨b, i, none⟩ v) :=
  ⟨rfl, rfl, rfl, by simp [World.setCell], fun k _ hk => Below.heap_setCell _ _ _ _ (by simpa using hk)⟩
theorem Fr.ofBelow {w w' : World} (h : Below w.heap.size w w') (T : List Nat) : Fr T w w' :=
  ⟨h.os, h.tape, h.output, h.size, fun k hk _ => h.block k hk⟩
theorem Fr.get {T : List Nat} {w w' : World} (h : Fr T w w') {k : Nat} {o : Obj} (hk : w.heap[k]? = some o) (hT : k ∉ T) : w'.heap[k]? = some o :=
  (h.block k (Array.getElem?_eq_some_iff.1 hk).1 hT).trans hk
theorem Fr.drew (T : List Nat) (w : World) : Fr T w w.drew := ⟨rfl, rfl, rfl, Nat.le_refl _, fun _ _ _ => rfl⟩
theorem MapIs.fr {T : List Nat} {w w' : World} {b : Nat} {m : List (Int × Value)} (h : MapIs w b m) (hf : Fr T w w') (hb : b ∉ T) : MapIs w' b m := by
  obtain ⟨es, c, h1, h2, h3⟩ := h
  exact ⟨es, c, hf.get h1 hb, h2, h3⟩
theorem MapIs.norow {w : World} {b : Nat} {m : List (Int × Value)} (h : MapIs w b m) (c : Array Value) (ty : TypeId) (fz : Nat × Nat) : w.heap[b]? ≠ some (.cells c ty fz) := by
  obtain ⟨es, cl, h1, _⟩ := h
  rw [h1]; simp
theorem MapIs.new (w : World) : MapIs (w.alloc (.map #[] 0)) w.heap.size [] := ⟨#[], 0, heap_alloc_new w _, MapKept.stamped_empty 0, rfl⟩

def ptr (b : Nat) : Value := .pointer (some ⟨b, 0, none⟩)
/-- An object with fields: its word, its block, its kind, its fields, their row's block and room. -/
structure Ob where
  k : Int
  t : Nat
  kind : Int
  fs : List Int
  fb : Nat
  fc : Nat
def Ob.obj (x : Ob) : Obj := .cells #[.int .i64 x.kind, .slice (some ⟨x.fb, 0, none⟩) x.fs.length x.fc, .string ⟨#[]⟩, .bool false, .bool false] 78 (0, 0)
def Ob.pair (x : Ob) : Int × Value := (x.k, ptr x.t)
/-- A row of words in a block of its own. -/
def Row (w : World) (b : Nat) (l : List Int) : Prop := ∃ cur, w.heap[b]? = some (.cells cur 28 (0, 0)) ∧ ∀ i, i < l.length → cur[i]? = some (.int .i64 (l.getD i 0))
theorem Row.fr {T : List Nat} {w w' : World} {b : Nat} {l : List Int} (h : Row w b l) (hf : Fr T w w') (hb : b ∉ T) : Row w' b l := by
  obtain ⟨cur, h1, h2⟩ := h
  exact ⟨cur, hf.get h1 hb, h2⟩
theorem Row.cell {w : World} {b : Nat} {l : List Int} (h : Row w b l) {i : Nat} (hi : i < l.length) : w.cell? ⟨b, i, none⟩ = some (.int .i64 (l.getD i 0)) := by
  obtain ⟨cur, h1, h2⟩ := h
  exact (blk_cell h1 i).trans (h2 i hi)
theorem Row.fz {w : World} {b : Nat} {l : List Int} (h : Row w b l) (i : Nat) : w.frozen? ⟨b, i, none⟩ = false := by
  obtain ⟨cur, h1, h2⟩ := h
  exact blk_frozen h1 i
theorem Row.lt {w : World} {b : Nat} {l : List Int} (h : Row w b l) : b < w.heap.size := by
  obtain ⟨cur, h1, h2⟩ := h
  exact blk_lt h1

def hpObj (b rb rc : Nat) (nx u : Int) : Obj := .cells #[.map (some b), .int .i64 nx, .slice (some ⟨rb, 0, none⟩) 1 rc, .int .i64 32, .int .i64 1000, .int .i64 u, .int .i64 0, .int .i64 0, .int .i64 0, .bool false] 66 (0, 0)
/-- A heap with one root. -/
structure HpAt (w : World) (g b rb rc : Nat) (L : List Ob) (nx r u : Int) : Prop where
  hp : w.heap[g]? = some (hpObj b rb rc nx u)
  mp : MapIs w b (L.map Ob.pair)
  rt : Row w rb [r]
  ob : ∀ x ∈ L, w.heap[x.t]? = some x.obj
  row : ∀ x ∈ L, Row w x.fb x.fs
  far : ∀ x ∈ L, x.fb ≠ rb
  low : ∀ x ∈ L, x.k < nx
section
variable {w : World} {g b rb rc : Nat} {L : List Ob} {nx r u : Int}
end

end Go.Proofs.Ytlghnldlkbgajaa.S
