/- heap: Len of either heap (kept for HeapLives alone). -/
import Derived.Test.YtlghnldlkbgajaaHRd
namespace Go.Proofs.Ytlghnldlkbgajaa.S
open Go.RowKit Go.Proofs.YtlghnldlkbgajaaW.PrintWords Go.Proofs.YtlghnldlkbgajaaW.PrintLast Go.Proofs.YtlghnldlkbgajaaW.PrintMore
set_option linter.unusedVariables false
set_option linter.unusedSimpArgs false
section
variable {w : World} {g rc : Nat} {V : Value} {R : Option Addr} {L : List OW} {h : RS}
set_option maxRecDepth 100000 in
theorem rlen_calls (H : HR w g V R rc L h) (hL : L.length ≤ 1000000) (hfn : ∀ x ∈ L, x.o.Fine) (a : Int) : Calls Try.prog 54 #[ptr g, .int .i64 a] w fun e w' => e = .returned (.int .i64 (lenF L a)) ∧ Fr [] w w' := by
  have HF := Aside0.mk (rfind_calls H hL a)
  unfold lenF
  cases hf : fnd L a with
  | some x =>
    rw [hf] at HF
    have hob := H.q.ob x (fnd_mem hf).1
    have hfl := (hfn x (fnd_mem hf).1).fl
    have htx := (hfn x (fnd_mem hf).1).tx
    have c1 : w.cell? ⟨x.t, 2, none⟩ = some (.slice x.A x.o.fs.length x.c) := (blk_cell hob 2).trans rfl
    have c2 : w.cell? ⟨x.t, 3, none⟩ = some (.string x.o.text) := (blk_cell hob 3).trans rfl
    replace HF : Aside0 (Calls Try.prog 62 #[ptr g, .int .i64 a] w fun e w' => e = .returned (ptr x.t) ∧ w' = w) := HF
    unfold ptr at HF
    unfold ptr
    show Calls Try.prog 54 _ w fun e w' => e = .returned (.int .i64 ((x.o.fs.length : Int) + (x.o.text.size : Int))) ∧ Fr [] w w'
    clear H hL hob hf hfn
    generalize x.t = xt at *
    generalize x.A = xA at *
    generalize x.c = xc at *
    generalize x.o.text = tx at *
    generalize x.o.fs.length = fn at *
    go_enter Try.func54, Try.ntmps54
    go_wp2_with fail
    refine HF.out.mono ?_
    rintro e w1 ⟨rfl, rfl⟩
    clear HF
    go_wp2_with fail
    go_region_held3 (fun w' => w'.cell? ⟨xt, 2, none⟩ = some (.slice xA fn xc) ∧ w'.cell? ⟨xt, 3, none⟩ = some (.string tx)) (first | exact ⟨c1, c2⟩) (fail)
    go_wp2_with fail
    go_returns
    refine ⟨?_, Fr.drew _ _⟩
    have e1 : IntKind.i64.wrap ((fn : Int) + (tx.size : Int)) = (fn : Int) + (tx.size : Int) := by rw [IntKind.wrap_i64]; omega
    show Ending.returned (.int .i64 (IntKind.i64.wrap ((fn : Int) + (tx.size : Int)))) = _
    rw [e1]
  | none =>
    rw [hf] at HF
    unfold fndV ptr at HF
    unfold ptr
    clear H hL hf
    go_enter Try.func54, Try.ntmps54
    go_wp2_with fail
    refine HF.out.mono ?_
    rintro e w1 ⟨rfl, rfl⟩
    clear HF
    go_wp2_with fail
    go_returns
    exact ⟨rfl, Fr.refl _ _⟩
end
section
variable {w : World} {g b B : Nat} {R : Option Addr} {rc : Nat} {L : List OW} {h : HH}
set_option maxRecDepth 100000 in
theorem len_any (H : HW w g b B R rc L h) {x : OW} (hx : x ∈ L) (hfl : x.o.fs.length ≤ 1000000) (htx : x.o.text.size ≤ 1000000) : Calls Try.prog 30 #[ptr g, .int .i64 x.k] w fun e w' => e = .returned (.int .i64 ((x.o.fs.length : Int) + (x.o.text.size : Int))) ∧ Below w.heap.size w w' := by
  have HF := Aside0.mk (find_any H hx)
  have c1 : w.cell? ⟨x.t, 1, none⟩ = some (.slice x.A x.o.fs.length x.c) := (blk_cell (H.ob x hx) 1).trans rfl
  have c2 : w.cell? ⟨x.t, 2, none⟩ = some (.string x.o.text) := (blk_cell (H.ob x hx) 2).trans rfl
  unfold ptr at *
  clear H hx
  generalize x.k = xk at *
  generalize x.t = xt at *
  generalize x.A = xA at *
  generalize x.c = xc at *
  generalize x.o.fs.length = fn at *
  generalize x.o.text = tx at *
  go_enter Try.func30, Try.ntmps30
  go_wp2_with fail
  refine HF.out.mono ?_
  rintro e w1 ⟨rfl, rfl⟩
  go_wp2_with fail
  go_region_held3 (fun w' => w'.cell? ⟨xt, 1, none⟩ = some (.slice xA fn xc) ∧ w'.cell? ⟨xt, 2, none⟩ = some (.string tx)) (first | exact ⟨c1, c2⟩) (fail)
  go_wp2_with fail
  go_returns
  refine ⟨?_, (Below.refl _ _).drew⟩
  have e1 : IntKind.i64.wrap ((fn : Int) + (tx.size : Int)) = (fn : Int) + (tx.size : Int) := by rw [IntKind.wrap_i64]; omega
  show Ending.returned (.int .i64 (IntKind.i64.wrap ((fn : Int) + (tx.size : Int)))) = _
  rw [e1]
set_option maxRecDepth 100000 in
theorem len_none (H : HW w g b B R rc L h) {k : Int} (hk : ∀ x ∈ L, x.k ≠ k) : Calls Try.prog 30 #[ptr g, .int .i64 k] w fun e w' => e = .returned (.int .i64 0) ∧ Below w.heap.size w w' := by
  have HF := Aside0.mk (find_none H hk)
  unfold ptr at *
  clear H hk
  go_enter Try.func30, Try.ntmps30
  go_wp2_with fail
  refine HF.out.mono ?_
  rintro e w1 ⟨v, rfl, hb, t, rfl, ht⟩
  have HB := Aside0.mk hb
  clear hb
  have c1 : w1.cell? ⟨t, 1, none⟩ = some (.slice none 0 0) := (blk_cell ht 1).trans rfl
  have c2 : w1.cell? ⟨t, 2, none⟩ = some (.string ⟨#[]⟩) := (blk_cell ht 2).trans rfl
  clear ht
  go_wp2_with fail
  go_region_held3 (fun w' => w'.cell? ⟨t, 1, none⟩ = some (.slice none 0 0) ∧ w'.cell? ⟨t, 2, none⟩ = some (.string ⟨#[]⟩)) (first | exact ⟨c1, c2⟩) (fail)
  go_wp2_with fail
  go_returns
  exact ⟨rfl, below_drew1 HB.out⟩
end
section
variable {w0 w w' : World} {K : List Nat} {g gx : Nat} {L : List OW} {h : HH} {M : List OW} {k : RS} {ρ : Int → Int → Prop}
theorem PM.lenR (P : PM w0 w K g gx L h M k) (hM : M.length ≤ 1000000) (hf : ∀ x ∈ M, x.o.Fine) (a : Int) : Calls Try.prog 54 #[ptr gx, .int .i64 a] w fun e w' => e = .returned (.int .i64 (lenF M a)) ∧ Below w.heap.size w w' := by
  obtain ⟨V, Rx, rcx, H, -⟩ := P.onR
  exact (rlen_calls H hM hf a).mono fun e w' ⟨h1, h2⟩ => ⟨h1, (FrP.ofFr h2).below (Nat.le_refl _) (fun i hi => by simp at hi)⟩
end
section
variable {ρ : Int → Int → Prop} {L M : List OW} {h : HH} {k : RS} {hr kr : List Int} {hx : Int}
theorem Rd.lenEq (s : Rd ρ L hr hx M kr) {u v : Int} (hw : WR ρ u v) : lenF L u = lenF M v := by
  unfold lenF
  rcases s.read hw with ⟨x, hx, y, hy, -, -, -, e1, e2, ho⟩ | ⟨-, -, e1, e2⟩ <;> rw [e1, e2]
  show (x.o.fs.length : Int) + x.o.text.size = (y.o.fs.length : Int) + y.o.text.size
  rw [ho.fs.1, ho.text]
end
section
variable {w0 w w' : World} {K : List Nat} {g gx : Nat} {L : List OW} {h : HH} {M : List OW} {k : RS} {ρ : Int → Int → Prop}
theorem PM.lenD (P : PM w0 w K g gx L h M k) (hp : L.Pairwise fun x y => x.k ≠ y.k) (hf : ∀ x ∈ L, x.o.Fine) (a : Int) : Calls Try.prog 30 #[ptr g, .int .i64 a] w fun e w' => e = .returned (.int .i64 (lenF L a)) ∧ Below w.heap.size w w' := by
  obtain ⟨b, R, rc, H, -⟩ := P.onL
  unfold lenF
  rcases fnd_iff hp a with ⟨x, hx, rfl, e2⟩ | ⟨hn, e2⟩ <;> rw [e2]
  · exact len_any H hx (by have := (hf x hx).fl; omega) (by have := (hf x hx).tx; omega)
  · exact len_none H hn
end
end Go.Proofs.Ytlghnldlkbgajaa.S
