
/- heap: the mover, and move. -/
import Derived.Test.YtlghnldlkbgajaaHWide
namespace Go.Proofs.Ytlghnldlkbgajaa.S
open Go.RowKit Go.Proofs.YtlghnldlkbgajaaW.PrintWords Go.Proofs.YtlghnldlkbgajaaW.PrintLast Go.Proofs.YtlghnldlkbgajaaW.PrintMore
set_option linter.unusedVariables false
set_option linter.unusedSimpArgs false

def toV (m : List (Int × Int)) : List (Int × Value) := m.map fun p => (p.1, .int .i64 p.2)
def toGet (m : List (Int × Int)) (x : Int) : Option Int := (m.find? fun p => decide (p.1 = x)).map (·.2)
theorem toV_get (m : List (Int × Int)) (x : Int) : get? (toV m) x = (toGet m x).map (Value.int .i64) := by
  unfold get? toV toGet
  induction m with
  | nil => rfl
  | cons p m ih =>
    simp only [List.map_cons, List.find?_cons]
    by_cases h : p.1 = x
    · simp [h]
    · simp only [h, decide_false]; exact ih
/-- The mover, at work on a heap that lay before w0. -/
structure MS (w0 w : World) (g b B : Nat) (R : Option Addr) (rc : Nat) (L : List OW) (h : HH) (mv tb : Nat) (all : Bool) (tt : List (Int × Int)) (q : List Int) : Prop where
  hw : HW w g b B R rc L h
  qs : ∃ (Q : Option Addr) (qc : Nat), w.heap[mv]? = some (.cells #[.pointer (some ⟨g, 0, none⟩), .map (some tb), .slice Q q.length qc, .bool all] 99 (0, 0)) ∧ w.ownsRow w0.heap.size 28 1 (.slice Q q.length qc) q.length (q.map (Value.int .i64))
  tm : MapIs w tb (toV tt)
  ge : mv < w0.heap.size ∧ tb < w0.heap.size ∧ tb ≠ b
  lt : ∀ k, Foot g b R L k → k < w0.heap.size
  fr : FrP (fun k => k = g ∨ k = mv ∨ k = tb) w0 w
section
variable {w0 w : World} {g b B : Nat} {R : Option Addr} {rc : Nat} {L : List OW} {h : HH} {mv tb : Nat} {all : Bool} {tt : List (Int × Int)} {q : List Int}
theorem MS.ne_mg (H : MS w0 w g b B R rc L h mv tb all tt q) : mv ≠ g := fun e => by
  obtain ⟨Q, qc, hm, hq⟩ := H.qs
  rw [e, H.hw.hp] at hm; simp [hhObj] at hm
theorem MS.ne_tg (H : MS w0 w g b B R rc L h mv tb all tt q) : tb ≠ g := fun e => by
  obtain ⟨es, cl, h1, _⟩ := H.tm
  rw [e, H.hw.hp] at h1; simp [hhObj] at h1
theorem MS.ne_mt (H : MS w0 w g b B R rc L h mv tb all tt q) : mv ≠ tb := fun e => by
  obtain ⟨Q, qc, hm, hq⟩ := H.qs
  obtain ⟨es, cl, h1, _⟩ := H.tm
  rw [← e, hm] at h1; simp at h1
theorem MS.foot (H : MS w0 w g b B R rc L h mv tb all tt q) {k : Nat} (hk : Foot g b R L k) : k ≠ mv ∧ k ≠ tb := by
  obtain ⟨Q, qc, hm, hq⟩ := H.qs
  obtain ⟨es, cl, h1, _⟩ := H.tm
  rcases hk with rfl | rfl | hk | ⟨x, hx, rfl | ⟨hne, rfl⟩⟩
  · exact ⟨H.ne_mg.symm, H.ne_tg.symm⟩
  · refine ⟨fun e => ?_, H.ge.2.2.symm⟩
    rw [← e] at hm
    exact H.hw.mp.norow _ _ _ hm
  · obtain ⟨-, cur, h2⟩ := H.hw.rtBlock (k := k) (by rw [hk]; rfl)
    exact ⟨fun e => by rw [e, hm] at h2; simp at h2, fun e => by rw [e, h1] at h2; simp at h2⟩
  · have h2 := H.hw.ob x hx
    exact ⟨fun e => by rw [e, hm] at h2; simp [OW.obj] at h2, fun e => by rw [e, h1] at h2; simp [OW.obj] at h2⟩
  · obtain ⟨-, cur, h2, -⟩ := H.hw.row x hx hne
    exact ⟨fun e => by rw [e, hm] at h2; simp at h2, fun e => by rw [e, h1] at h2; simp at h2⟩
end
set_option maxRecDepth 100000 in
/-- A word that is not an object's stays. -/
theorem move_no {w0 w : World} {g b B : Nat} {R : Option Addr} {rc : Nat} {L : List OW} {h : HH} {mv tb : Nat} {all : Bool} {tt : List (Int × Int)} {q : List Int} (H : MS w0 w g b B R rc L h mv tb all tt q) {x : Int} (hx : ∀ y ∈ L, y.k ≠ x) :
    Calls Try.prog 59 #[ptr mv, .int .i64 x] w fun e w' => e = .returned (.int .i64 x) ∧ w' = w := by
  obtain ⟨Q, qc, hm, hq⟩ := H.qs
  have m0 : w.cell? ⟨mv, 0, none⟩ = some (.pointer (some ⟨g, 0, none⟩)) := (blk_cell hm 0).trans rfl
  have c0 := H.hw.c0
  have hl := H.hw.lookNo hx
  unfold ptr
  clear H hm hq hx
  go_enter Try.func59, Try.ntmps59
  go_wp2_with fail
  go_returns
  exact ⟨rfl, rfl⟩
set_option maxRecDepth 100000 in
/-- A word that was moved goes where it went. -/
theorem move_hit {w0 w : World} {g b B : Nat} {R : Option Addr} {rc : Nat} {L : List OW} {h : HH} {mv tb : Nat} {all : Bool} {tt : List (Int × Int)} {q : List Int} (H : MS w0 w g b B R rc L h mv tb all tt q) {x : OW} (hx : x ∈ L) {n : Int} (hn : toGet tt x.k = some n) :
    Calls Try.prog 59 #[ptr mv, .int .i64 x.k] w fun e w' => e = .returned (.int .i64 n) ∧ w' = w := by
  obtain ⟨Q, qc, hm, hq⟩ := H.qs
  have m0 : w.cell? ⟨mv, 0, none⟩ = some (.pointer (some ⟨g, 0, none⟩)) := (blk_cell hm 0).trans rfl
  have m1 : w.cell? ⟨mv, 1, none⟩ = some (.map (some tb)) := (blk_cell hm 1).trans rfl
  have c0 := H.hw.c0
  have hl := H.hw.look hx
  have hlow := H.hw.low x hx
  have ht := map_lookup (P := Try.prog) Try.underlying85 Try.underlying28 (Try.zeroValue28 w) H.tm x.k true
  rw [toV_get, hn] at ht
  simp only [Option.map_some, Option.getD_some, Option.isSome_some, if_true] at ht
  unfold ptr at *
  have e1 : decide (x.k ≤ 0) = false := decide_eq_false (by omega)
  have e2 : (bits BinOp.and .i64 x.k 1 == 1) = false := by rw [bit1, hlow.2.2]; rfl
  clear H hm hq hx hlow hn
  generalize x.k = xk at *
  generalize x.t = xt at *
  go_enter Try.func59, Try.ntmps59
  go_wp2_with fail
  go_returns
  exact ⟨rfl, rfl⟩
end Go.Proofs.Ytlghnldlkbgajaa.S
