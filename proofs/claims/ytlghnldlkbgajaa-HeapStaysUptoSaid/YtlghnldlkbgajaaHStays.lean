
/- heap: HeapStays, walked. -/
import Derived.Test.YtlghnldlkbgajaaHLw8
import Derived.Test.YtlghnldlkbgajaaHLw9
import Derived.Test.YtlghnldlkbgajaaHDos
namespace Go.Proofs.Ytlghnldlkbgajaa.S
open Go.RowKit Go.Proofs.YtlghnldlkbgajaaW.PrintWords Go.Proofs.YtlghnldlkbgajaaW.PrintLast Go.Proofs.YtlghnldlkbgajaaW.PrintMore
set_option linter.unusedVariables false
set_option linter.unusedSimpArgs false
section
variable {w0 w w' : World} {p g gx n : Nat}
theorem ColF_spent (L : List OW) (h : HH) (all : Bool) (he : (ColF L h all).1 ≠ 0) : (ColF L h all).2.2.spent = true := by
  unfold ColF at he ⊢
  by_cases hs : h.spent = true
  · rw [if_pos hs]; exact hs
  · rw [if_neg hs] at he ⊢
    split
    · rfl
    · next h1 => rw [if_neg h1] at he; exact absurd rfl he
theorem ColF_none (L : List OW) (h : HH) (all : Bool) (he : (ColF L h all).1 = 0) : (ColF L h all).2.2.has0 = 0 := by
  unfold ColF at he ⊢
  by_cases hs : h.spent = true
  · rw [if_pos hs] at he; cases he
  · rw [if_neg hs] at he ⊢
    have : (ColMid L h all).2.has0 = 0 := by unfold ColMid; split <;> rfl
    split <;> exact this
theorem ColF_of_spent {L : List OW} {h : HH} (hs : h.spent = true) (all : Bool) : (ColF L h all).1 = 140 := by
  unfold ColF; rw [if_pos hs]
structure RB (i : Nat) (L : List OW) (h : HH) (M : List OW) (k : RS) : Prop where
  ll : L.length ≤ 200
  lm : M.length ≤ 200
  rl : h.roots.length ≤ 200
  nx : h.nx ≤ 700000000 + 1000 * (i : Int)
  mm : 0 ≤ h.minor ∧ h.minor ≤ 1000 + (i : Int) ∧ 0 ≤ h.major ∧ h.major ≤ 1000 + (i : Int)
  km : 0 ≤ k.minor ∧ k.minor ≤ h.minor
def StR (w0 w : World) (p g gx i : Nat) : Prop := PrAt w p g gx ∧ ∃ ρ L h M k, PM w0 w [p] g gx L h M k ∧ Rd ρ L h.roots h.nx M k.roots ∧ RB i L h M k
theorem St.r {m : Nat} (H : St w0 w p g gx m) (hm : m ≤ 120) : StR w0 w p g gx 0 := by
  obtain ⟨h1, ρ, L, h, M, k, h2, h3, h4⟩ := H
  have := h4.ll; have := h4.lm; have := h4.rl; have := h4.nx; have := h4.mm; have := h3.cnt
  exact ⟨h1, ρ, L, h, M, k, h2, h3.rd, by omega, by omega, by omega, by omega, by omega, by omega⟩
theorem RB.sm {ρ : Int → Int → Prop} {i : Nat} {L M : List OW} {h : HH} {k : RS} (b : RB i L h M k) (s : Rd ρ L h.roots h.nx M k.roots) (hi : i ≤ 100) : Sm L h := by
  have := b.ll; have := b.rl; have := b.nx; have := b.mm
  exact ⟨by omega, ⟨s.nl.1, s.nl.2, by omega⟩, fun o ho => by have := (s.fine o ho).fl; omega, fun o ho => by have := (s.fine o ho).tx; omega, by omega, by omega⟩
theorem RB.col {i : Nat} {L M : List OW} {h : HH} {k : RS} (b : RB i L h M k) (all : Bool) : RB (i + 1) (ColF L h all).2.1 (ColF L h all).2.2 M k := by
  have h1 := ColF_b L h all
  have h3 := ColF_roots L h all
  have := b.ll; have := b.lm; have := b.rl; have := b.nx; have := b.mm; have := b.km
  exact ⟨by omega, by omega, by omega, by omega, by omega, by omega⟩
theorem StR.new {i : Nat} (H : StR w0 w p g gx i) (hb : Below w.heap.size w w') : StR w0 w' p g gx i := by
  obtain ⟨h1, ρ, L, h, M, k, h2, h3, h4⟩ := H
  exact ⟨h1.new hb, ρ, L, h, M, k, h2.new hb, h3, h4⟩
theorem StR.bel {i : Nat} (H : StR w0 w p g gx i) : Below w0.heap.size w0 w := by
  obtain ⟨h1, ρ, L, h, M, k, h2, h3, h4⟩ := H
  exact h2.bel
set_option maxRecDepth 100000 in
set_option maxHeartbeats 2000000 in
theorem stays_calls {A B : Option Addr} {c c' nb : Nat} (hD : DosAt w A n) (hn : n ≤ 1000000000) (hB : BoolsAt w B nb) (hnb : nb ≤ 1000000000) : Calls Try.prog 4 #[.slice A n c, .slice B nb c'] w fun e w' => e = .returned (.bool true) ∧ Below w.heap.size w w' := by
  have HF := Aside0.mk (filled_calls (c := c) hD hn)
  have HB := Aside0.mk hB
  clear hD hB
  go_enter Try.func4, Try.ntmps4
  go_wp2_with fail
  refine HF.out.mono ?_
  rintro e w1 ⟨p, g, gx, rfl, hpp, hst⟩
  have HST := Aside0.mk (hst.r (Nat.le_refl _))
  clear hst HF hpp
  unfold ptr
  go_wp2_with fail
  go_loopw [17] (fun v wr => ∃ i : Nat, v = .int .i64 i ∧ Aside0 (i ≤ nb ∧ i ≤ 7) ∧ Aside0 (StR w wr p g gx i)) (fun v wr => nb - (intOf v).toNat)
  case atStart => exact ⟨0, rfl, ⟨by omega⟩, HST⟩
  case round =>
    clear HST
    obtain ⟨i, rfl, hi, HS⟩ := hrel
    by_cases hlt : i < nb
    · have hltb : decide ((i : Int) < (nb : Int)) = true := decide_eq_true (by omega)
      have hil : (i : Int) < (nb : Int) := by omega
      obtain ⟨ad, al, rfl, z0⟩ := HB.out i hlt
      replace z0 := (HS.out.bel.cell (cell_lt z0)).trans z0
      by_cases h6 : 6 < i
      · have h6b : decide ((6 : Int) < (i : Int)) = true := decide_eq_true (by omega)
        go_wp2_with fail
        go_returns
        exact ⟨rfl, HS.out.bel⟩
      · have h6b : decide ((6 : Int) < (i : Int)) = false := decide_eq_false (by omega)
        obtain ⟨hpr, ρ, L, h, M, k, hpm, hrd, hrb⟩ := HS.out
        have c0 := hpr.c0
        have HC := Aside0.mk (hpm.collectL (hrb.sm hrd (by omega)) al)
        have HX := Aside0.mk (And.intro hpr (And.intro hrd hrb))
        unfold ptr at HC
        clear hpr hpm hrd hrb
        go_wp2_with fail
        refine HC.out.mono ?_
        rintro e w2 ⟨rfl, hm2, hf2⟩
        have hpr2 := HX.out.1.frp hf2 (fun e => e.2 (by simp))
        obtain ⟨ρ2, hrd2⟩ := HX.out.2.1.col al
        have hrb2 := HX.out.2.2.col al
        have hspn := ColF_spent L h al
        have hnon := ColF_none L h al
        generalize ColF L h al = cf at *
        obtain ⟨er, L2, h2⟩ := cf
        have c0' := hpr2.c0
        clear HC c0 z0 HS
        by_cases he : er = 0
        · subst he
          have hh0 : h2.has0 = 0 := hnon rfl
          have hct := hm2.countsL
          rw [show (L2, h2).2.has0 = 0 from hh0] at hct
          have HCT := Aside0.mk hct
          have H2 := Aside0.mk (And.intro hm2 (And.intro hpr2 (And.intro hrd2 hrb2)))
          unfold ptr at HCT
          clear hct hnon hspn hh0 hm2 hpr2 hrd2 hrb2 hf2
          go_wp2_with fail
          refine HCT.out.mono ?_
          rintro e w4 ⟨rfl, hb4⟩
          have hbd : Below w4.heap.size w4 (w4.alloc (.cells #[.int .i64 h2.minor, .int .i64 h2.major, .int .i64 0, .int .i64 h2.has1] 47)).drew := below_drew1 ((Below.refl _ _).alloc (Nat.le_refl _) _)
          have hbe : Below w4.heap.size w4 ((w4.alloc (.cells #[.int .i64 h2.minor, .int .i64 h2.major, .int .i64 0, .int .i64 h2.has1] 47)).drew.alloc (.cells #[.pointer (some ⟨g, 0, none⟩), .pointer (some ⟨gx, 0, none⟩)] 44)) := hbd.alloc hbd.size _
          have hp4 := H2.out.2.1.new hb4
          have HH1 := Aside0.mk (show ((w4.alloc (.cells #[.int .i64 h2.minor, .int .i64 h2.major, .int .i64 0, .int .i64 h2.has1] 47)).drew.cell? ⟨p, 0, none⟩ = some (.pointer (some ⟨g, 0, none⟩)) ∧ (w4.alloc (.cells #[.int .i64 h2.minor, .int .i64 h2.major, .int .i64 0, .int .i64 h2.has1] 47)).drew.cell? ⟨p, 1, none⟩ = some (.pointer (some ⟨gx, 0, none⟩))) from (hp4.new hbd).held')
          have HH2 := Aside0.mk (show (((w4.alloc (.cells #[.int .i64 h2.minor, .int .i64 h2.major, .int .i64 0, .int .i64 h2.has1] 47)).drew.alloc (.cells #[.pointer (some ⟨g, 0, none⟩), .pointer (some ⟨gx, 0, none⟩)] 44)).cell? ⟨p, 0, none⟩ = some (.pointer (some ⟨g, 0, none⟩)) ∧ ((w4.alloc (.cells #[.int .i64 h2.minor, .int .i64 h2.major, .int .i64 0, .int .i64 h2.has1] 47)).drew.alloc (.cells #[.pointer (some ⟨g, 0, none⟩), .pointer (some ⟨gx, 0, none⟩)] 44)).cell? ⟨p, 1, none⟩ = some (.pointer (some ⟨gx, 0, none⟩))) from (hp4.new hbe).held')
          have k20 : (w4.alloc (.cells #[.int .i64 h2.minor, .int .i64 h2.major, .int .i64 0, .int .i64 h2.has1] 47)).cell? ⟨p, 0, none⟩ = some (.pointer (some ⟨g, 0, none⟩)) := (hp4.new ((Below.refl _ _).alloc (Nat.le_refl _) _)).c0
          have hPe : PM w (((w4.alloc (.cells #[.int .i64 h2.minor, .int .i64 h2.major, .int .i64 0, .int .i64 h2.has1] 47)).alloc (.cells #[.pointer (some ⟨g, 0, none⟩), .pointer (some ⟨gx, 0, none⟩)] 44)).drew) [p] g gx L2 h2 M k := (H2.out.1.new hb4).new hbe
          have hPeq : PrAt (((w4.alloc (.cells #[.int .i64 h2.minor, .int .i64 h2.major, .int .i64 0, .int .i64 h2.has1] 47)).alloc (.cells #[.pointer (some ⟨g, 0, none⟩), .pointer (some ⟨gx, 0, none⟩)] 44)).drew) p g gx := hp4.new hbe
          have hQ : PrAt (((w4.alloc (.cells #[.int .i64 h2.minor, .int .i64 h2.major, .int .i64 0, .int .i64 h2.has1] 47)).alloc (.cells #[.pointer (some ⟨g, 0, none⟩), .pointer (some ⟨gx, 0, none⟩)] 44)).drew) (w4.heap.size + 1) g gx := by
            have := heap_alloc_new (w4.alloc (.cells #[.int .i64 h2.minor, .int .i64 h2.major, .int .i64 0, .int .i64 h2.has1] 47)) (.cells #[.pointer (some ⟨g, 0, none⟩), .pointer (some ⟨gx, 0, none⟩)] 44)
            rw [show (w4.alloc (.cells #[.int .i64 h2.minor, .int .i64 h2.major, .int .i64 0, .int .i64 h2.has1] 47)).heap.size = w4.heap.size + 1 by simp] at this
            exact this
          have hC8 : (((w4.alloc (.cells #[.int .i64 h2.minor, .int .i64 h2.major, .int .i64 0, .int .i64 h2.has1] 47)).alloc (.cells #[.pointer (some ⟨g, 0, none⟩), .pointer (some ⟨gx, 0, none⟩)] 44)).drew).heap[w4.heap.size]? = some (.cells #[.int .i64 h2.minor, .int .i64 h2.major, .int .i64 0, .int .i64 h2.has1] 47 (0, 0)) := blk_alloc (heap_alloc_new w4 _) _
          have hBF : Below w4.heap.size w4 (((w4.alloc (.cells #[.int .i64 h2.minor, .int .i64 h2.major, .int .i64 0, .int .i64 h2.has1] 47)).alloc (.cells #[.pointer (some ⟨g, 0, none⟩), .pointer (some ⟨gx, 0, none⟩)] 44)).drew) := hbe
          have HCX := Aside0.mk (hPe.countsR (by have := H2.out.2.2.2.lm; omega) H2.out.2.2.1.fineM)
          have HB4 := Aside0.mk (And.intro hb4 (And.intro hPe (And.intro hBF (And.intro hPeq (And.intro hQ hC8)))))
          have ke1 : (((w4.alloc (.cells #[.int .i64 h2.minor, .int .i64 h2.major, .int .i64 0, .int .i64 h2.has1] 47)).alloc (.cells #[.pointer (some ⟨g, 0, none⟩), .pointer (some ⟨gx, 0, none⟩)] 44)).drew).cell? ⟨p, 1, none⟩ = some (.pointer (some ⟨gx, 0, none⟩)) := hPeq.c1
          unfold ptr at HCX
          clear HCT hb4 hbd hbe hp4 hPe hPeq hQ hC8 hBF
          go_wp2_with fail
          refine start_ (n := 11) (S := (fun w' => w'.cell? ⟨p, 0, none⟩ = some (.pointer (some ⟨g, 0, none⟩)) ∧ w'.cell? ⟨p, 1, none⟩ = some (.pointer (some ⟨gx, 0, none⟩)))) (ds := []) #[false, false, false, false, false, false, false, false, false, false, false] (by kernel_rfl) rfl rfl HH1.out (fun hHeld => ?_)
          refine pure_ (i := 0) (N := some 42) (v := ?_) (a' := ?_) #[true, false, false, false, false, false, false, false, false, false, false] rfl rfl (by kernel_rfl) (fun _ _ _ h => h) (Or.inl ⟨by rfl, ?_⟩) ?_ ?_
          rotate_left
          · intro w'
            go_simp
            with_reducible rfl
          rotate_left
          · simp only [Act.put, List.setIfInBounds_toArray, List.set_cons_zero, List.set_cons_succ, i64_w, i32_w]
            rfl
          refine pure_ (i := 1) (N := some 43) (v := ?_) (a' := ?_) #[true, true, false, false, false, false, false, false, false, false, false] rfl rfl (by kernel_rfl) (fun _ _ _ h => h) (Or.inl ⟨by rfl, ?_⟩) ?_ ?_
          rotate_left
          · intro w'
            go_simp
            with_reducible rfl
          rotate_left
          · simp only [Act.put, List.setIfInBounds_toArray, List.set_cons_zero, List.set_cons_succ, i64_w, i32_w]
            rfl
          refine pure_ (i := 2) (N := some 44) (v := ?_) (a' := ?_) #[true, true, true, false, false, false, false, false, false, false, false] rfl rfl (by kernel_rfl) (fun _ _ _ h => h) (Or.inl ⟨by rfl, ?_⟩) ?_ ?_
          rotate_left
          · intro w'
            go_simp
            with_reducible rfl
          rotate_left
          · simp only [Act.put, List.setIfInBounds_toArray, List.set_cons_zero, List.set_cons_succ, i64_w, i32_w]
            rfl
          refine take_ (i := 3) (N := some 45) (v := ?_) (a' := ?_) #[true, true, true, true, false, false, false, false, false, false, false] rfl rfl (by kernel_rfl) (fun _ _ _ h => h) (Or.inl ⟨by rfl, ?_⟩) hHeld ?_ ?_
          rotate_left
          · rintro w' ⟨s0, s1⟩
            go_simp
            with_reducible rfl
          rotate_left
          · simp only [Act.put, List.setIfInBounds_toArray, List.set_cons_zero, List.set_cons_succ, i64_w, i32_w]
            rfl
          refine pure_ (i := 4) (N := some 46) (v := ?_) (a' := ?_) #[true, true, true, true, true, false, false, false, false, false, false] rfl rfl (by kernel_rfl) (fun _ _ _ h => h) (Or.inl ⟨by rfl, ?_⟩) ?_ ?_
          rotate_left
          · intro w'
            go_simp
            with_reducible rfl
          rotate_left
          · simp only [Act.put, List.setIfInBounds_toArray, List.set_cons_zero, List.set_cons_succ, i64_w, i32_w]
            rfl
          refine pure_ (i := 5) (N := some 47) (v := ?_) (a' := ?_) #[true, true, true, true, true, true, false, false, false, false, false] rfl rfl (by kernel_rfl) (fun _ _ _ h => h) (Or.inl ⟨by rfl, ?_⟩) ?_ ?_
          rotate_left
          · intro w'
            go_simp
            with_reducible rfl
          rotate_left
          · simp only [Act.put, List.setIfInBounds_toArray, List.set_cons_zero, List.set_cons_succ, i64_w, i32_w]
            rfl
          refine pure_ (i := 6) (N := some 48) (v := ?_) (a' := ?_) #[true, true, true, true, true, true, true, false, false, false, false] rfl rfl (by kernel_rfl) (fun _ _ _ h => h) (Or.inl ⟨by rfl, ?_⟩) ?_ ?_
          rotate_left
          · intro w'
            go_simp
            with_reducible rfl
          rotate_left
          · simp only [Act.put, List.setIfInBounds_toArray, List.set_cons_zero, List.set_cons_succ, i64_w, i32_w]
            rfl
          refine take_ (i := 7) (N := some 49) (v := ?_) (a' := ?_) #[true, true, true, true, true, true, true, true, false, false, false] rfl rfl (by kernel_rfl) (fun _ _ _ h => h) (Or.inl ⟨by rfl, ?_⟩) hHeld ?_ ?_
          rotate_left
          · rintro w' ⟨s0, s1⟩
            go_simp
            with_reducible rfl
          rotate_left
          · simp only [Act.put, List.setIfInBounds_toArray, List.set_cons_zero, List.set_cons_succ, i64_w, i32_w]
            rfl
          refine pure_ (i := 8) (N := some 50) (v := ?_) (a' := ?_) #[true, true, true, true, true, true, true, true, true, false, false] rfl rfl (by kernel_rfl) (fun _ _ _ h => h) (Or.inl ⟨by rfl, ?_⟩) ?_ ?_
          rotate_left
          · intro w'
            go_simp
            with_reducible rfl
          rotate_left
          · simp only [Act.put, List.setIfInBounds_toArray, List.set_cons_zero, List.set_cons_succ, i64_w, i32_w]
            rfl
          refine one_ (i := 9) (N := some 51) #[true, true, true, true, true, true, true, true, true, true, false] rfl rfl (by kernel_rfl) (by decide) (fun KK hK => ?_)
          refine value_ (v := .pointer (some ⟨(w4.alloc (.cells #[.int .i64 h2.minor, .int .i64 h2.major, .int .i64 0, .int .i64 h2.has1] 47)).drew.heap.size, 0, none⟩)) (w1 := (w4.alloc (.cells #[.int .i64 h2.minor, .int .i64 h2.major, .int .i64 0, .int .i64 h2.has1] 47)).drew.alloc (.cells #[.pointer (some ⟨g, 0, none⟩), .pointer (some ⟨gx, 0, none⟩)] 44)) (by rfl) rfl (by first | (go_simp; done) | (go_simp; rfl)) ?_
          refine hK.out _ _ HH2.out (fun hHeld => ?_)
          clear hK KK
          refine norm_ (a' := ?_) ?_ ?_
          rotate_left
          · show Act.put _ (some 51) _ = _
            simp only [Act.put, List.setIfInBounds_toArray, List.set_cons_zero, List.set_cons_succ, i64_w, i32_w]
            rfl
          refine pure_ (i := 10) (N := some 9) (v := ?_) (a' := ?_) #[true, true, true, true, true, true, true, true, true, true, true] rfl rfl (by kernel_rfl) (fun _ _ _ h => h) (Or.inl ⟨by rfl, ?_⟩) ?_ ?_
          rotate_left
          · intro w'
            go_simp
            with_reducible rfl
          rotate_left
          · simp only [Act.put, List.setIfInBounds_toArray, List.set_cons_zero, List.set_cons_succ, i64_w, i32_w]
            rfl
          refine done_ (by kernel_rfl) ?_
          go_wp2_with fail
          refine HCX.out.mono ?_
          rintro e w5 ⟨rfl, hb5⟩
          have hba5 : Below w5.heap.size w5 (w5.alloc (.cells #[.int .i64 k.minor, .int .i64 k.major, .int .i64 (sumB M false), .int .i64 (sumB M true)] 47)) := (Below.refl _ _).alloc (Nat.le_refl _) _
          have hb6 := below_step hb5 hba5
          have hC8 := (FrP.ofBelow hb6).get HB4.out.2.2.2.2.2 (by have := blk_lt HB4.out.2.2.2.2.2; omega)
          have x82 : (w5.alloc (.cells #[.int .i64 k.minor, .int .i64 k.major, .int .i64 (sumB M false), .int .i64 (sumB M true)] 47)).cell? ⟨w4.heap.size, 2, none⟩ = some (.int .i64 0) := (blk_cell hC8 2).trans rfl
          have x80 : (w5.alloc (.cells #[.int .i64 k.minor, .int .i64 k.major, .int .i64 (sumB M false), .int .i64 (sumB M true)] 47)).cell? ⟨w4.heap.size, 0, none⟩ = some (.int .i64 h2.minor) := (blk_cell hC8 0).trans rfl
          have x10 : (w5.alloc (.cells #[.int .i64 k.minor, .int .i64 k.major, .int .i64 (sumB M false), .int .i64 (sumB M true)] 47)).cell? ⟨w5.heap.size, 0, none⟩ = some (.int .i64 k.minor) := (blk_cell (heap_alloc_new w5 _) 0).trans rfl
          have hrb2 := H2.out.2.2.2
          have hw1 : IntKind.i64.wrap (h2.minor + 1000) = h2.minor + 1000 := by have := hrb2.mm; have := hi.out; rw [IntKind.wrap_i64]; omega
          have hw2 : wrap64 (h2.minor + 1000) = h2.minor + 1000 := by have := hrb2.mm; have := hi.out; unfold wrap64; omega
          have hdc : decide (h2.minor + 1000 < k.minor) = false := decide_eq_false (by have := hrb2.km; omega)
          have HAL := Aside0.mk (alike_calls ((HB4.out.2.1.new hb5).new hba5) H2.out.2.2.1 (by have := hrb2.lm; omega) (by have := hrb2.rl; omega) (by have := hrb2.ll; omega) ((HB4.out.2.2.2.2.1.new hb5).new hba5))
          have HS2 := Aside0.mk (show StR w (w5.alloc (.cells #[.int .i64 k.minor, .int .i64 k.major, .int .i64 (sumB M false), .int .i64 (sumB M true)] 47)) p g gx (i + 1) from ⟨(HB4.out.2.2.2.1.new hb5).new hba5, ρ2, L2, h2, M, k, (HB4.out.2.1.new hb5).new hba5, H2.out.2.2.1, H2.out.2.2.2⟩)
          unfold ptr at HAL
          clear HCX hb5 hba5 hb6 hC8 hrb2
          go_wp2_with fail
          refine HAL.out.mono ?_
          rintro e w7 ⟨rfl, hb7⟩
          have HS3 := Aside0.mk (HS2.out.new hb7)
          clear hb7 HAL x82 x80 x10
          go_wp2_with fail
          go_roundw
          case rel => exact ⟨i + 1, by go_num, ⟨by omega⟩, HS3⟩
          case measure => simp [intOf]; omega
        · have heb : (er != 0) = true := by simpa using he
          have hsp : h2.spent = true := hspn he
          have hcs := ColF_of_spent (L := L2) hsp true
          have hc2 := hm2.collectL (hrb2.sm hrd2 (by omega)) true
          rw [show (ColF (er, L2, h2).2.1 (er, L2, h2).2.2 true).1 = 140 from hcs] at hc2
          have HC2 := Aside0.mk hc2
          have HBE := Aside0.mk hm2.bel
          unfold ptr at HC2
          clear hc2 hcs hsp hnon hspn hm2 hpr2 hrd2 hrb2 hf2
          go_wp2_with fail
          refine HC2.out.mono ?_
          rintro e w3 ⟨rfl, hm3, hf3⟩
          have HBE3 := Aside0.mk hm3.bel
          clear hm3 hf3 HC2
          go_wp2_with fail
          go_returns
          exact ⟨rfl, HBE3.out⟩
    · have hltb : decide ((i : Int) < (nb : Int)) = false := decide_eq_false (by omega)
      have hil : ¬ (i : Int) < (nb : Int) := by omega
      go_wp2_with fail
      go_returns
      exact ⟨rfl, HS.out.bel⟩
end
end Go.Proofs.Ytlghnldlkbgajaa.S
