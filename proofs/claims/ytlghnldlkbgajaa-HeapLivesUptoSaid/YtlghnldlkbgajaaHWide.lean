
/- heap, wide: a heap of whatever objects and roots in memory; what may be done to it. -/
import Derived.Test.YtlghnldlkbgajaaHPlace
namespace Go.Proofs.Ytlghnldlkbgajaa.S
open Go.RowKit Go.Proofs.YtlghnldlkbgajaaW.PrintWords Go.Proofs.YtlghnldlkbgajaaW.PrintLast Go.Proofs.YtlghnldlkbgajaaW.PrintMore
set_option linter.unusedVariables false
set_option linter.unusedSimpArgs false

theorem bit1 (x : Int) : bits BinOp.and .i64 x 1 = x % 2 := by
  have h : (BitVec.ofInt 64 x &&& BitVec.ofInt 64 1).toNat = (x % 18446744073709551616).toNat % 2 := by
    rw [show BitVec.ofInt 64 1 = BitVec.ofNat 64 (2 ^ 1 - 1) from rfl, BitVec.toNat_and, BitVec.toNat_ofInt, BitVec.toNat_ofNat]
    rw [show (2 ^ 1 - 1) % 2 ^ 64 = 2 ^ 1 - 1 from rfl, Nat.and_two_pow_sub_one_eq_mod]
    rfl
  have h1 : bits BinOp.and .i64 x 1 = IntKind.i64.wrap ((BitVec.ofInt 64 x &&& BitVec.ofInt 64 1).toNat : Int) := rfl
  rw [h1, h, IntKind.wrap_i64]
  omega
/-- What a step may touch: the blocks that T says. -/
structure FrP (T : Nat → Prop) (w w' : World) : Prop where
  os : w'.os = w.os
  tape : w'.tape = w.tape
  output : w'.output = w.output
  size : w.heap.size ≤ w'.heap.size
  block : ∀ k, k < w.heap.size → ¬ T k → w'.heap[k]? = w.heap[k]?
theorem FrP.refl (T : Nat → Prop) (w : World) : FrP T w w := ⟨rfl, rfl, rfl, Nat.le_refl _, fun _ _ _ => rfl⟩
theorem FrP.trans {T : Nat → Prop} {a b c : World} (h : FrP T a b) (k : FrP T b c) : FrP T a c :=
  ⟨k.os.trans h.os, k.tape.trans h.tape, k.output.trans h.output, Nat.le_trans h.size k.size, fun i hi hT => (k.block i (Nat.lt_of_lt_of_le hi h.size) hT).trans (h.block i hi hT)⟩
theorem FrP.mono {T T' : Nat → Prop} {a b : World} (h : FrP T a b) (hT : ∀ k, k < a.heap.size → T k → T' k) : FrP T' a b :=
  ⟨h.os, h.tape, h.output, h.size, fun k hk hn => h.block k hk (fun hm => hn (hT k hk hm))⟩
theorem FrP.get {T : Nat → Prop} {w w' : World} (h : FrP T w w') {k : Nat} {o : Obj} (hk : w.heap[k]? = some o) (hT : ¬ T k) : w'.heap[k]? = some o :=
  (h.block k (Array.getElem?_eq_some_iff.1 hk).1 hT).trans hk
theorem FrP.ofFr {l : List Nat} {w w' : World} (h : Fr l w w') : FrP (· ∈ l) w w' := ⟨h.os, h.tape, h.output, h.size, h.block⟩
theorem FrP.ofBelow {N : Nat} {w w' : World} (h : Below N w w') : FrP (N ≤ ·) w w' := ⟨h.os, h.tape, h.output, h.size, fun k _ hn => h.block k (by omega)⟩
theorem FrP.below {T : Nat → Prop} {w w' : World} (h : FrP T w w') {B : Nat} (hB : B ≤ w.heap.size) (hT : ∀ k, T k → B ≤ k) : Below B w w' :=
  ⟨h.os, h.tape, h.output, h.size, fun k hk => h.block k (by omega) (fun hm => by have := hT k hm; omega)⟩
theorem FrP.new {w w' : World} (h : Below w.heap.size w w') (T : Nat → Prop) : FrP T w w' := ⟨h.os, h.tape, h.output, h.size, fun k hk _ => h.block k hk⟩
/-- Only blocks of T, or new ones: of a world that lay before. -/
theorem FrP.then {T : Nat → Prop} {a b c : World} (h : FrP T a b) (k : FrP (fun i => T i ∨ a.heap.size ≤ i) b c) : FrP T a c :=
  ⟨k.os.trans h.os, k.tape.trans h.tape, k.output.trans h.output, Nat.le_trans h.size k.size, fun i hi hT => (k.block i (Nat.lt_of_lt_of_le hi h.size) (fun e => e.elim hT (fun e => by omega))).trans (h.block i hi hT)⟩
theorem MapIs.frp {T : Nat → Prop} {w w' : World} {b : Nat} {m : List (Int × Value)} (h : MapIs w b m) (hf : FrP T w w') (hb : ¬ T b) : MapIs w' b m := by
  obtain ⟨es, c, h1, h2, h3⟩ := h
  exact ⟨es, c, hf.get h1 hb, h2, h3⟩
theorem Row.frp {T : Nat → Prop} {w w' : World} {b : Nat} {l : List Int} (h : Row w b l) (hf : FrP T w w') (hb : ¬ T b) : Row w' b l := by
  obtain ⟨cur, h1, h2⟩ := h
  exact ⟨cur, hf.get h1 hb, h2⟩
theorem own_frp {w w' : World} {T : Nat → Prop} {B n : Nat} {v : Value} {xs : List Value} (h : w.ownsRow B 28 1 v n xs) (hf : FrP T w w') (hv : ∀ k, v.ownBlock = some k → ¬ T k) : w'.ownsRow B 28 1 v n xs := by
  refine ⟨h.1, ?_⟩
  rcases h.2 with h | ⟨g, cap, cur, rfl, b, c, d⟩
  · exact .inl h
  · exact .inr ⟨g, cap, cur, rfl, b, hf.get c (hv g rfl), d⟩
theorem own_fr {w w' : World} {T : List Nat} {B n : Nat} {v : Value} {xs : List Value} (h : w.ownsRow B 28 1 v n xs) (hf : Fr T w w') (hv : ∀ k, v.ownBlock = some k → k ∉ T) : w'.ownsRow B 28 1 v n xs :=
  own_frp h (FrP.ofFr hf) hv

/-- What an object says. -/
structure PO where
  kind : Int
  fs : List Int
  text : ByteArray
  old : Bool
  noted : Bool
/-- An object under its word, in its block; its fields' slice (its row lies in block fb, if it has fields). -/
structure OW where
  k : Int
  t : Nat
  A : Option Addr
  c : Nat
  fb : Nat
  o : PO
def OW.obj (x : OW) : Obj := .cells #[.int .i64 x.o.kind, .slice x.A x.o.fs.length x.c, .string x.o.text, .bool x.o.old, .bool x.o.noted] 78 (0, 0)
def OW.pair (x : OW) : Int × Value := (x.k, ptr x.t)
def OW.rowOk (w : World) (x : OW) : Prop := x.o.fs ≠ [] → x.A = some ⟨x.fb, 0, none⟩ ∧ Row w x.fb x.o.fs
/-- What a heap says beside its objects. -/
structure HH where
  nx : Int
  roots : List Int
  room0 : Int
  room1 : Int
  has0 : Int
  has1 : Int
  minor : Int
  major : Int
  spent : Bool
def hhObj (b : Nat) (R : Option Addr) (rc : Nat) (h : HH) : Obj := .cells #[.map (some b), .int .i64 h.nx, .slice R h.roots.length rc, .int .i64 h.room0, .int .i64 h.room1, .int .i64 h.has0, .int .i64 h.has1, .int .i64 h.minor, .int .i64 h.major, .bool h.spent] 66 (0, 0)
/-- A heap in memory; its roots' row lies at B or behind. -/
structure HW (w : World) (g b B : Nat) (R : Option Addr) (rc : Nat) (L : List OW) (h : HH) : Prop where
  hp : w.heap[g]? = some (hhObj b R rc h)
  mp : MapIs w b (L.map OW.pair)
  rt : w.ownsRow B 28 1 (.slice R h.roots.length rc) h.roots.length (h.roots.map (Value.int .i64))
  ob : ∀ x ∈ L, w.heap[x.t]? = some x.obj
  row : ∀ x ∈ L, x.rowOk w
  one : ∀ x ∈ L, ∀ y ∈ L, x.k ≠ y.k → x.t ≠ y.t ∧ (x.o.fs ≠ [] → y.o.fs ≠ [] → x.fb ≠ y.fb)
  far : ∀ x ∈ L, ∀ rb : Nat, R = some ⟨rb, 0, none⟩ → x.o.fs ≠ [] → x.fb ≠ rb
  low : ∀ x ∈ L, 0 < x.k ∧ x.k < h.nx ∧ x.k % 2 = 0
/-- Its blocks. -/
def Foot (g b : Nat) (R : Option Addr) (L : List OW) (k : Nat) : Prop := k = g ∨ k = b ∨ R = some ⟨k, 0, none⟩ ∨ ∃ x ∈ L, k = x.t ∨ (x.o.fs ≠ [] ∧ k = x.fb)
section
variable {w w' : World} {g b B rc : Nat} {R : Option Addr} {L : List OW} {h : HH}
theorem OW.rowOk.frp {T : Nat → Prop} {x : OW} (h : x.rowOk w) (hf : FrP T w w') (hx : x.o.fs ≠ [] → ¬ T x.fb) : x.rowOk w' := fun hne => ⟨(h hne).1, (h hne).2.frp hf (hx hne)⟩
theorem OW.rowOk.fr {T : List Nat} {x : OW} (h : x.rowOk w) (hf : Fr T w w') (hx : x.o.fs ≠ [] → x.fb ∉ T) : x.rowOk w' := h.frp (FrP.ofFr hf) hx
theorem HW.rtBlock (H : HW w g b B R rc L h) {k : Nat} (hk : (Value.slice R h.roots.length rc).ownBlock = some k) : R = some ⟨k, 0, none⟩ ∧ ∃ cur, w.heap[k]? = some (.cells cur 28 (0, 0)) := by
  rcases H.rt.2 with ⟨h1, -⟩ | ⟨q, cap, cur, h1, -, h3, -⟩
  · rw [h1] at hk; cases hk
  · rw [h1] at hk
    obtain rfl : q = k := by simpa [Value.ownBlock] using hk
    simp only [Value.slice.injEq] at h1
    exact ⟨h1.1, cur, h3⟩
theorem HW.frp {T : Nat → Prop} (H : HW w g b B R rc L h) (hf : FrP T w w') (hT : ∀ k, Foot g b R L k → ¬ T k) : HW w' g b B R rc L h :=
  ⟨hf.get H.hp (hT _ (.inl rfl)), H.mp.frp hf (hT _ (.inr (.inl rfl))), own_frp H.rt hf (fun k hk => hT _ (.inr (.inr (.inl (H.rtBlock hk).1)))),
    fun x hx => hf.get (H.ob x hx) (hT _ (.inr (.inr (.inr ⟨x, hx, .inl rfl⟩)))), fun x hx => (H.row x hx).frp hf (fun hne => hT _ (.inr (.inr (.inr ⟨x, hx, .inr ⟨hne, rfl⟩⟩)))), H.one, H.far, H.low⟩
theorem HW.fr {T : List Nat} (H : HW w g b B R rc L h) (hf : Fr T w w') (hT : ∀ k, Foot g b R L k → k ∉ T) : HW w' g b B R rc L h := H.frp (FrP.ofFr hf) hT
theorem HW.fr0 (H : HW w g b B R rc L h) (hf : Fr [] w w') : HW w' g b B R rc L h := H.fr hf (fun _ _ => by simp)
theorem HW.foot_lt (H : HW w g b B R rc L h) {k : Nat} (hk : Foot g b R L k) : k < w.heap.size := by
  rcases hk with rfl | rfl | hk | ⟨x, hx, rfl | ⟨hne, rfl⟩⟩
  · exact blk_lt H.hp
  · obtain ⟨es, cl, h1, _⟩ := H.mp; exact blk_lt h1
  · obtain ⟨-, cur, h1⟩ := H.rtBlock (k := k) (by rw [hk]; rfl); exact blk_lt h1
  · exact blk_lt (H.ob x hx)
  · exact (H.row x hx hne).2.lt
theorem HW.new (H : HW w g b B R rc L h) (hf : Below w.heap.size w w') : HW w' g b B R rc L h :=
  H.frp (FrP.ofBelow hf) (fun k hk => by have := H.foot_lt hk; omega)
theorem HW.c0 (H : HW w g b B R rc L h) : w.cell? ⟨g, 0, none⟩ = some (.map (some b)) := (blk_cell H.hp 0).trans rfl
theorem HW.c1 (H : HW w g b B R rc L h) : w.cell? ⟨g, 1, none⟩ = some (.int .i64 h.nx) := (blk_cell H.hp 1).trans rfl
theorem HW.c2 (H : HW w g b B R rc L h) : w.cell? ⟨g, 2, none⟩ = some (.slice R h.roots.length rc) := (blk_cell H.hp 2).trans rfl
theorem HW.c3 (H : HW w g b B R rc L h) : w.cell? ⟨g, 3, none⟩ = some (.int .i64 h.room0) := (blk_cell H.hp 3).trans rfl
theorem HW.c4 (H : HW w g b B R rc L h) : w.cell? ⟨g, 4, none⟩ = some (.int .i64 h.room1) := (blk_cell H.hp 4).trans rfl
theorem HW.c5 (H : HW w g b B R rc L h) : w.cell? ⟨g, 5, none⟩ = some (.int .i64 h.has0) := (blk_cell H.hp 5).trans rfl
theorem HW.c6 (H : HW w g b B R rc L h) : w.cell? ⟨g, 6, none⟩ = some (.int .i64 h.has1) := (blk_cell H.hp 6).trans rfl
theorem HW.c7 (H : HW w g b B R rc L h) : w.cell? ⟨g, 7, none⟩ = some (.int .i64 h.minor) := (blk_cell H.hp 7).trans rfl
theorem HW.c8 (H : HW w g b B R rc L h) : w.cell? ⟨g, 8, none⟩ = some (.int .i64 h.major) := (blk_cell H.hp 8).trans rfl
theorem HW.c9 (H : HW w g b B R rc L h) : w.cell? ⟨g, 9, none⟩ = some (.bool h.spent) := (blk_cell H.hp 9).trans rfl
theorem HW.fz (H : HW w g b B R rc L h) (i : Nat) : w.frozen? ⟨g, i, none⟩ = false := blk_frozen H.hp i
theorem HW.apart (H : HW w g b B R rc L h) : L.Pairwise fun x y => x.k ≠ y.k := by
  obtain ⟨es, cl, h1, h2, h3⟩ := H.mp
  have := pairs_apart h2 h3
  rw [List.pairwise_map] at this
  exact this
theorem pw_eq {α : Type} (f : α → Int) : ∀ {L : List α}, L.Pairwise (fun x y => f x ≠ f y) → ∀ {x y}, x ∈ L → y ∈ L → f x = f y → x = y
  | [], _, x, y, hx, _, _ => by cases hx
  | a :: L, hp, x, y, hx, hy, e => by
    rw [List.pairwise_cons] at hp
    rcases List.mem_cons.1 hx with e1 | hx1
    · rcases List.mem_cons.1 hy with e2 | hy1
      · rw [e1, e2]
      · exact absurd (e1 ▸ e) (hp.1 y hy1)
    · rcases List.mem_cons.1 hy with e2 | hy1
      · exact absurd (e2 ▸ e).symm (hp.1 x hx1)
      · exact pw_eq f hp.2 hx1 hy1 e
theorem HW.same (H : HW w g b B R rc L h) {x y : OW} (hx : x ∈ L) (hy : y ∈ L) (e : x.k = y.k) : x = y := pw_eq OW.k H.apart hx hy e
theorem HW.look (H : HW w g b B R rc L h) {x : OW} (hx : x ∈ L) : (Instr.lookup 63 (.map (some b)) (.int .i64 x.k) false).run Try.prog w = .ok (ptr x.t) w := by
  have hl := map_lookup (P := Try.prog) Try.underlying63 Try.underlying28 (Try.zeroValue75 w) H.mp x.k false
  obtain ⟨es, cl, h1, h2, h3⟩ := H.mp
  rw [get_of_mem (pairs_apart h2 h3) (List.mem_map.2 ⟨x, hx, rfl⟩ : (x.k, ptr x.t) ∈ L.map OW.pair)] at hl
  exact hl
theorem HW.miss (H : HW w g b B R rc L h) {k : Int} (hk : ∀ x ∈ L, x.k ≠ k) : get? (L.map OW.pair) k = none := by
  rw [get_none]
  intro p hp
  obtain ⟨x, hx, rfl⟩ := List.mem_map.1 hp
  exact hk x hx
theorem HW.lookNo (H : HW w g b B R rc L h) {k : Int} (hk : ∀ x ∈ L, x.k ≠ k) : (Instr.lookup 63 (.map (some b)) (.int .i64 k) false).run Try.prog w = .ok (.pointer none) w := by
  have hl := map_lookup (P := Try.prog) Try.underlying63 Try.underlying28 (Try.zeroValue75 w) H.mp k false
  rw [H.miss hk] at hl
  exact hl
theorem HW.ne_gb (H : HW w g b B R rc L h) : g ≠ b := fun e => by
  obtain ⟨es, cl, h1, _⟩ := H.mp
  rw [← e, H.hp] at h1; simp [hhObj] at h1
theorem HW.ne_gt (H : HW w g b B R rc L h) {x : OW} (hx : x ∈ L) : x.t ≠ g := fun e => by
  have := H.ob x hx
  rw [e, H.hp] at this
  simp [hhObj, OW.obj] at this
theorem HW.ne_gf (H : HW w g b B R rc L h) {x : OW} (hx : x ∈ L) (hne : x.o.fs ≠ []) : x.fb ≠ g := fun e => by
  obtain ⟨-, cur, h2, -⟩ := H.row x hx hne
  rw [e, H.hp] at h2
  simp [hhObj] at h2
theorem HW.ne_gr (H : HW w g b B R rc L h) {rb : Nat} (hr : R = some ⟨rb, 0, none⟩) : rb ≠ g := fun e => by
  obtain ⟨-, cur, h1⟩ := H.rtBlock (k := rb) (by rw [hr]; rfl)
  rw [e, H.hp] at h1; simp [hhObj] at h1
theorem HW.ne_bt (H : HW w g b B R rc L h) {x : OW} (hx : x ∈ L) : x.t ≠ b := fun e => by
  have := H.ob x hx
  rw [e] at this
  exact H.mp.norow _ _ _ this
theorem HW.ne_bf (H : HW w g b B R rc L h) {x : OW} (hx : x ∈ L) (hne : x.o.fs ≠ []) : x.fb ≠ b := fun e => by
  obtain ⟨-, cur, h2, -⟩ := H.row x hx hne
  rw [e] at h2
  exact H.mp.norow _ _ _ h2
theorem HW.ne_br (H : HW w g b B R rc L h) {rb : Nat} (hr : R = some ⟨rb, 0, none⟩) : rb ≠ b := fun e => by
  obtain ⟨-, cur, h1⟩ := H.rtBlock (k := rb) (by rw [hr]; rfl)
  rw [e] at h1
  exact H.mp.norow _ _ _ h1
theorem HW.ne_tr (H : HW w g b B R rc L h) {x : OW} (hx : x ∈ L) {rb : Nat} (hr : R = some ⟨rb, 0, none⟩) : x.t ≠ rb := fun e => by
  obtain ⟨-, cur, h1⟩ := H.rtBlock (k := rb) (by rw [hr]; rfl)
  have := H.ob x hx
  rw [e, h1] at this
  simp [OW.obj] at this
theorem HW.ne_tf (H : HW w g b B R rc L h) {x y : OW} (hx : x ∈ L) (hy : y ∈ L) (hne : y.o.fs ≠ []) : x.t ≠ y.fb := fun e => by
  obtain ⟨-, cur, h2, -⟩ := H.row y hy hne
  have := H.ob x hx
  rw [e, h2] at this
  simp [OW.obj] at this
/-- The heap's own block, turned. -/
theorem HW.turned (H : HW w g b B R rc L h) {h' : HH} (hf : Fr [g] w w') (hg : w'.heap[g]? = some (hhObj b R rc h')) (hr : h'.roots = h.roots) (hn : h.nx ≤ h'.nx) : HW w' g b B R rc L h' := by
  have hT : ∀ k, Foot g b R L k → k ≠ g → k ∉ [g] := fun k _ hk => by simpa using hk
  refine ⟨hg, H.mp.fr hf (by simpa using H.ne_gb.symm), ?_, fun x hx => hf.get (H.ob x hx) (by simpa using H.ne_gt hx), fun x hx => (H.row x hx).fr hf (fun hne => by simpa using H.ne_gf hx hne), H.one, H.far, fun x hx => ?_⟩
  · rw [hr]
    exact own_fr H.rt hf (fun k hk => by simpa using H.ne_gr (H.rtBlock hk).1)
  · have := H.low x hx
    exact ⟨this.1, by omega, this.2.2⟩
end
/-- One object turned. -/
def upd (L : List OW) (k : Int) (f : PO → PO) : List OW := L.map fun y => if y.k = k then { y with o := f y.o } else y
theorem upd_mem {L : List OW} {k : Int} {f : PO → PO} {y : OW} (hy : y ∈ upd L k f) : ∃ y0 ∈ L, y0.k = y.k ∧ y0.t = y.t ∧ y0.A = y.A ∧ y0.c = y.c ∧ y0.fb = y.fb ∧ ((y0.k = k ∧ y.o = f y0.o) ∨ (y0.k ≠ k ∧ y = y0)) := by
  obtain ⟨y0, h0, e⟩ := List.mem_map.1 hy
  refine ⟨y0, h0, ?_⟩
  by_cases hk : y0.k = k
  · rw [if_pos hk] at e
    subst e
    exact ⟨rfl, rfl, rfl, rfl, rfl, .inl ⟨hk, rfl⟩⟩
  · rw [if_neg hk] at e
    subst e
    exact ⟨rfl, rfl, rfl, rfl, rfl, .inr ⟨hk, rfl⟩⟩
theorem upd_pair (L : List OW) (k : Int) (f : PO → PO) : (upd L k f).map OW.pair = L.map OW.pair := by
  unfold upd
  rw [List.map_map]
  refine List.map_congr_left fun y _ => ?_
  simp only [Function.comp]
  split <;> rfl
theorem upd_at {L : List OW} {x : OW} (hx : x ∈ L) (f : PO → PO) : { x with o := f x.o } ∈ upd L x.k f := List.mem_map.2 ⟨x, hx, by simp⟩
theorem HW.updated {w w' : World} {g b B rc : Nat} {R : Option Addr} {L : List OW} {h : HH} (H : HW w g b B R rc L h) {x : OW} (hx : x ∈ L) (f : PO → PO) (hlen : (f x.o).fs.length = x.o.fs.length) {T : Nat → Prop} (hf : FrP T w w') (hT : ∀ k, T k → k = x.t ∨ (x.o.fs ≠ [] ∧ k = x.fb))
    (ht : w'.heap[x.t]? = some ({ x with o := f x.o } : OW).obj) (hr : x.o.fs ≠ [] → Row w' x.fb (f x.o).fs) : HW w' g b B R rc (upd L x.k f) h := by
  have hnil : (f x.o).fs ≠ [] ↔ x.o.fs ≠ [] := by rw [← List.length_pos_iff, ← List.length_pos_iff, hlen]
  have hne : ∀ y ∈ L, y.k ≠ x.k → ¬ T y.t ∧ (y.o.fs ≠ [] → ¬ T y.fb) := fun y hy hk => by
    have h1 := H.one y hy x hx hk
    refine ⟨fun hm => ?_, fun hn hm => ?_⟩
    · rcases hT _ hm with e | ⟨h2, e⟩
      · exact h1.1 e
      · exact H.ne_tf hy hx h2 e
    · rcases hT _ hm with e | ⟨h2, e⟩
      · exact H.ne_tf hx hy hn e.symm
      · exact h1.2 hn h2 e
  have hT' : ∀ k, (k = x.t → False) → (x.o.fs ≠ [] → k = x.fb → False) → ¬ T k := fun k h1 h2 hm => (hT k hm).elim h1 (fun e => h2 e.1 e.2)
  refine ⟨hf.get H.hp (hT' _ (fun e => H.ne_gt hx e.symm) (fun hn e => H.ne_gf hx hn e.symm)), ?_, own_frp H.rt hf (fun k hk => ?_), fun y hy => ?_, fun y hy => ?_, fun y hy z hz hk => ?_, fun y hy rb hrb => ?_, fun y hy => ?_⟩
  · rw [upd_pair]
    exact H.mp.frp hf (hT' _ (fun e => H.ne_bt hx e.symm) (fun hn e => H.ne_bf hx hn e.symm))
  · have hR := (H.rtBlock hk).1
    exact hT' _ (fun e => H.ne_tr hx hR e.symm) (fun hn e => H.far x hx k hR hn e.symm)
  · obtain ⟨y0, h0, e1, e2, e3, e4, e5, ⟨h1, h2⟩ | ⟨h1, rfl⟩⟩ := upd_mem hy
    · obtain rfl := H.same h0 hx h1
      have : y = { y0 with o := f y0.o } := by cases y; cases y0; simp_all
      rw [this]; exact ht
    · exact hf.get (H.ob y h0) (hne y h0 h1).1
  · obtain ⟨y0, h0, e1, e2, e3, e4, e5, ⟨h1, h2⟩ | ⟨h1, rfl⟩⟩ := upd_mem hy
    · obtain rfl := H.same h0 hx h1
      have : y = { y0 with o := f y0.o } := by cases y; cases y0; simp_all
      rw [this]
      intro hn
      have hn := hnil.1 hn
      exact ⟨(H.row y0 hx hn).1, hr hn⟩
    · exact (H.row y h0).frp hf (hne y h0 h1).2
  · obtain ⟨y0, hy0, e1, e2, -, -, e5, hy1⟩ := upd_mem hy
    obtain ⟨z0, hz0, d1, d2, -, -, d5, hz1⟩ := upd_mem hz
    have := H.one y0 hy0 z0 hz0 (by rw [e1, d1]; exact hk)
    rw [← e2, ← d2, ← e5, ← d5]
    refine ⟨this.1, fun hn hm => this.2 ?_ ?_⟩
    · rcases hy1 with ⟨h1, h2⟩ | ⟨h1, rfl⟩
      · obtain rfl := H.same hy0 hx h1; rw [h2] at hn; exact hnil.1 hn
      · exact hn
    · rcases hz1 with ⟨h1, h2⟩ | ⟨h1, rfl⟩
      · obtain rfl := H.same hz0 hx h1; rw [h2] at hm; exact hnil.1 hm
      · exact hm
  · obtain ⟨y0, hy0, e1, e2, -, -, e5, hy1⟩ := upd_mem hy
    intro hn
    rw [← e5]
    refine H.far y0 hy0 rb hrb ?_
    rcases hy1 with ⟨h1, h2⟩ | ⟨h1, rfl⟩
    · obtain rfl := H.same hy0 hx h1; rw [h2] at hn; exact hnil.1 hn
    · exact hn
  · obtain ⟨y0, hy0, e1, -⟩ := upd_mem hy
    rw [← e1]; exact H.low y0 hy0
/-- A field set in its row. -/
def PO.set (o : PO) (i : Nat) (v : Int) : PO := { o with fs := o.fs.set i v }
theorem Row.set {w : World} {b : Nat} {l : List Int} (h : Row w b l) (i : Nat) (v : Int) : Row (w.setCell ⟨b, i, none⟩ (.int .i64 v)) b (l.set i v) := by
  obtain ⟨cur, h1, h2⟩ := h
  refine ⟨_, blk_put h1 i (.int .i64 v) rfl, fun j hj => ?_⟩
  rw [List.length_set] at hj
  have h3 := h2 j hj
  have hlt := (Array.getElem?_eq_some_iff.1 h3).1
  rw [Array.getElem?_setIfInBounds]
  by_cases e : i = j
  · subst e
    rw [if_pos rfl, if_pos hlt]
    simp [List.getD, hj]
  · rw [if_neg e, h3]
    simp [List.getD, List.getElem?_set, e]
theorem HW.setField {w : World} {g b B rc : Nat} {R : Option Addr} {L : List OW} {h : HH} (H : HW w g b B R rc L h) {x : OW} (hx : x ∈ L) (hne : x.o.fs ≠ []) (i : Nat) (v : Int) : HW (w.setCell ⟨x.fb, i, none⟩ (.int .i64 v)) g b B R rc (upd L x.k (fun o => o.set i v)) h := by
  have f := Fr.set w x.fb i (.int .i64 v)
  refine H.updated hx (fun o => o.set i v) (by simp [PO.set]) (FrP.ofFr f) (fun k hk => .inr ⟨hne, by simpa using hk⟩) ?_ (fun _ => (H.row x hx hne).2.set i v)
  have := f.get (H.ob x hx) (by simpa using H.ne_tf hx hx hne)
  rw [this]
  simp [OW.obj, PO.set]
theorem HW.setOld {w : World} {g b B rc : Nat} {R : Option Addr} {L : List OW} {h : HH} (H : HW w g b B R rc L h) {x : OW} (hx : x ∈ L) (v : Bool) : HW (w.setCell ⟨x.t, 3, none⟩ (.bool v)) g b B R rc (upd L x.k (fun o => { o with old := v })) h := by
  have f := Fr.set w x.t 3 (.bool v)
  exact H.updated hx (fun o => { o with old := v }) rfl (FrP.ofFr f) (fun k hk => .inl (by simpa using hk)) (blk_put (H.ob x hx) 3 (.bool v) rfl) (fun hne => (H.row x hx hne).2.fr f (by simpa using (H.ne_tf hx hx hne).symm))
theorem HW.setNoted {w : World} {g b B rc : Nat} {R : Option Addr} {L : List OW} {h : HH} (H : HW w g b B R rc L h) {x : OW} (hx : x ∈ L) (v : Bool) : HW (w.setCell ⟨x.t, 4, none⟩ (.bool v)) g b B R rc (upd L x.k (fun o => { o with noted := v })) h := by
  have f := Fr.set w x.t 4 (.bool v)
  exact H.updated hx (fun o => { o with noted := v }) rfl (FrP.ofFr f) (fun k hk => .inl (by simpa using hk)) (blk_put (H.ob x hx) 4 (.bool v) rfl) (fun hne => (H.row x hx hne).2.fr f (by simpa using (H.ne_tf hx hx hne).symm))
/-- A root's cell. -/
theorem HW.rootAt {w : World} {g b B rc : Nat} {R : Option Addr} {L : List OW} {h : HH} (H : HW w g b B R rc L h) {i : Nat} (hi : i < h.roots.length) : ∃ rb, R = some ⟨rb, 0, none⟩ ∧ w.cell? ⟨rb, i, none⟩ = some (.int .i64 (h.roots.getD i 0)) ∧ ∀ j, w.frozen? ⟨rb, j, none⟩ = false := by
  rcases H.rt.2 with ⟨-, h2⟩ | ⟨qb, cap, cur, h1, h2, h3, h4, h5, h6, h7⟩
  · omega
  · simp only [Value.slice.injEq] at h1
    obtain ⟨rfl, -, rfl⟩ := h1
    refine ⟨qb, rfl, (blk_cell h3 i).trans ?_, fun j => blk_frozen h3 j⟩
    have h8 : (cur.toList.take (h.roots.length * 1))[i]? = (h.roots.map (Value.int .i64))[i]? := congrArg (fun l : List Value => l[i]?) h7
    rw [List.getElem?_take, if_pos (by omega)] at h8
    rw [← Array.getElem?_toList, h8]
    simp [List.getD, List.getElem?_eq_getElem hi]
def HH.setRoot (h : HH) (i : Nat) (x : Int) : HH := { h with roots := h.roots.set i x }
theorem HW.setRoot {w : World} {g b B rc : Nat} {L : List OW} {h : HH} {rb : Nat} (H : HW w g b B (some ⟨rb, 0, none⟩) rc L h) {i : Nat} (hi : i < h.roots.length) (x : Int) : HW (w.setCell ⟨rb, i, none⟩ (.int .i64 x)) g b B (some ⟨rb, 0, none⟩) rc L (h.setRoot i x) := by
  have f := Fr.set w rb i (.int .i64 x)
  have e : (hhObj b (some ⟨rb, 0, none⟩) rc (h.setRoot i x)) = hhObj b (some ⟨rb, 0, none⟩) rc h := by simp [hhObj, HH.setRoot]
  refine ⟨by rw [e]; exact f.get H.hp (by simpa using (H.ne_gr rfl).symm), H.mp.fr f (by simpa using (H.ne_br rfl).symm), ?_, fun y hy => f.get (H.ob y hy) (by simpa using H.ne_tr hy rfl), fun y hy => (H.row y hy).fr f (fun hne => by simpa using H.far y hy rb rfl hne), H.one, H.far, H.low⟩
  rcases H.rt.2 with ⟨h1, h2⟩ | ⟨qb, cap, cur, h1, h2, h3, h4, h5, h6, h7⟩
  · omega
  · simp only [Value.slice.injEq, Option.some.injEq, Addr.mk.injEq, and_true, true_and] at h1
    obtain ⟨rfl, rfl⟩ := h1
    refine ⟨by simp [HH.setRoot], .inr ⟨rb, rc, cur.setIfInBounds i (.int .i64 x), by simp [HH.setRoot], h2, blk_put h3 i _ rfl, by simp only [HH.setRoot, List.length_set]; exact h4, h5, by simpa using h6, ?_⟩⟩
    have h8 : (h.setRoot i x).roots.length = h.roots.length := by simp [HH.setRoot]
    rw [h8, Array.toList_setIfInBounds, List.take_set, h7]
    simp [HH.setRoot, List.map_set]
end Go.Proofs.Ytlghnldlkbgajaa.S
