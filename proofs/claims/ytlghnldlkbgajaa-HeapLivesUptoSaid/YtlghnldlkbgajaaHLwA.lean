/- heap: the laws' own functions: word, push. heap: the laws' own functions: words. heap: the laws' own functions: does, its parts. -/
import Derived.Test.YtlghnldlkbgajaaHSimB
namespace Go.Proofs.Ytlghnldlkbgajaa.S
open Go.RowKit Go.Proofs.YtlghnldlkbgajaaW.PrintWords Go.Proofs.YtlghnldlkbgajaaW.PrintLast Go.Proofs.YtlghnldlkbgajaaW.PrintMore
set_option linter.unusedVariables false
set_option linter.unusedSimpArgs false
section
variable {w0 w w' : World} {K : List Nat} {p g gx : Nat} {L : List OW} {h : HH} {M : List OW} {k : RS} {ρ : Int → Int → Prop} {n : Nat}
/-- The pair of both. -/
def PrAt (w : World) (p g gx : Nat) : Prop := w.heap[p]? = some (.cells #[ptr g, ptr gx] 44 (0, 0))
theorem PrAt.c0 (H : PrAt w p g gx) : w.cell? ⟨p, 0, none⟩ = some (.pointer (some ⟨g, 0, none⟩)) := (blk_cell H 0).trans rfl
theorem PrAt.c1 (H : PrAt w p g gx) : w.cell? ⟨p, 1, none⟩ = some (.pointer (some ⟨gx, 0, none⟩)) := (blk_cell H 1).trans rfl
theorem PrAt.frp {T : Nat → Prop} (H : PrAt w p g gx) (hf : FrP T w w') (hp : ¬ T p) : PrAt w' p g gx := hf.get H hp
theorem PrAt.new (H : PrAt w p g gx) (hb : Below w.heap.size w w') : PrAt w' p g gx := (FrP.ofBelow hb).get H (by have := blk_lt H; omega)
theorem rootIx {r : List Int} {m : Int} (h0 : 0 ≤ m) (h1 : m < (r.length : Int)) : (if m < 0 ∨ (r.length : Int) ≤ m then (0 : Int) else r.getD m.toNat 0) = r.getD m.toNat 0 := if_neg (by omega)
set_option maxRecDepth 100000 in
set_option maxHeartbeats 1000000 in
theorem word_calls (P : PM w0 w K g gx L h M k) (s : Sim ρ L h M k) (hrl : h.roots.length ≤ 1000000) (hpr : PrAt w p g gx) (x : Int) :
    Calls Try.prog 47 #[ptr p, .int .i64 x] w fun e w' => ∃ u v, e = .returned (.tuple #[.int .i64 u, .int .i64 v]) ∧ WX ρ u v ∧ Fr [] w w' := by
  have c0 := hpr.c0
  have c1 := hpr.c1
  have c0d : w.drew.cell? ⟨p, 0, none⟩ = some (.pointer (some ⟨g, 0, none⟩)) := c0
  have c1d : w.drew.cell? ⟨p, 1, none⟩ = some (.pointer (some ⟨gx, 0, none⟩)) := c1
  have HRN := Aside0.mk P.rootsR
  have hPd := P.fr0 (Fr.drew [] w)
  have hrr := s.roots.1
  have HRL := Aside0.mk (fun i => hPd.rootL hrl i)
  have HRR := Aside0.mk (fun i => hPd.rootR i)
  have HS := Aside0.mk s
  obtain ⟨m, hm⟩ : ∃ m, m = k.roots.length := ⟨_, rfl⟩
  rw [← hm] at HRN hrr
  have HM := Aside0.mk hm
  unfold ptr
  unfold ptr at HRN HRL HRR
  clear P s hPd hpr hm
  by_cases hx : x < 0
  · have bx : decide (x < 0) = true := decide_eq_true hx
    have bx2 : decide (0 < x) = false := decide_eq_false (by omega)
    go_enter Try.func47, Try.ntmps47
    go_wp2_with fail
    all_goals (go_returns; exact ⟨_, _, rfl, .inr ⟨rfl, .inr (by omega)⟩, Fr.refl _ _⟩)
  · have bx : decide (x < 0) = false := decide_eq_false hx
    by_cases h0 : m = 0
    · subst h0
      go_enter Try.func47, Try.ntmps47
      go_wp2_with fail
      refine HRN.out.mono ?_
      rintro e w1 ⟨rfl, rfl⟩
      by_cases hx2 : x % 2 = 0
      · by_cases hx3 : 0 < x
        · have bx3 : decide (0 < x) = true := decide_eq_true hx3
          go_wp2_with fail
          go_returns
          exact ⟨_, _, rfl, .inr ⟨rfl, .inl (by unfold wrap64; omega)⟩, Fr.refl _ _⟩
        · have bx3 : decide (0 < x) = false := decide_eq_false hx3
          go_wp2_with fail
          go_returns
          exact ⟨_, _, rfl, .inr ⟨rfl, .inr (by omega)⟩, Fr.refl _ _⟩
      · go_wp2_with fail
        go_returns
        exact ⟨_, _, rfl, .inr ⟨rfl, .inl (by omega)⟩, Fr.refl _ _⟩
    · have hm0 : (((m : Nat) : Int) == 0) = false := by simp; omega
      go_enter Try.func47, Try.ntmps47
      go_wp2_with fail
      refine HRN.out.mono ?_
      rintro e w1 ⟨rfl, rfl⟩
      go_wp2_with fail
      refine HRN.out.mono ?_
      rintro e w2 ⟨rfl, rfl⟩
      go_wp2_with fail
      obtain ⟨q, hq⟩ : ∃ q, q = x % (m : Int) := ⟨_, rfl⟩
      have hq0 : 0 ≤ q ∧ q < (m : Int) := by rw [hq]; exact ⟨Int.emod_nonneg _ (by omega), Int.emod_lt_of_pos _ (by omega)⟩
      try rw [← hq]
      have HL1 := HRL.out q
      have HR1 := HRR.out q
      rw [rootIx hq0.1 (by omega)] at HL1
      rw [rootIx hq0.1 (by rw [← HM.out]; exact hq0.2)] at HR1
      have HW := Aside0.mk (HS.out.roots.2 q.toNat (by omega))
      generalize h.roots.getD q.toNat 0 = u at *
      generalize k.roots.getD q.toNat 0 = v at *
      have HL2 := Aside0.mk HL1
      have HR2 := Aside0.mk HR1
      clear hq hq0 HL1 HR1 HRL HRR
      refine start_ (n := 14) (S := (fun w' => w'.cell? ⟨p, 0, none⟩ = some (.pointer (some ⟨g, 0, none⟩)) ∧ w'.cell? ⟨p, 1, none⟩ = some (.pointer (some ⟨gx, 0, none⟩)))) (ds := []) #[false, false, false, false, false, false, false, false, false, false, false, false, false, false] (by kernel_rfl) rfl rfl ⟨c0d, c1d⟩ (fun hHeld => ?_)
      refine pure_ (i := 0) (N := some 37) (v := ?_) (a' := ?_) #[true, false, false, false, false, false, false, false, false, false, false, false, false, false] rfl rfl (by kernel_rfl) (fun _ _ _ h => h) (Or.inl ⟨by rfl, ?_⟩) ?_ ?_
      rotate_left
      · intro w'
        go_simp
        with_reducible rfl
      rotate_left
      · simp only [Act.put, List.setIfInBounds_toArray, List.set_cons_zero, List.set_cons_succ, i64_w, i32_w]
        rfl
      refine pure_ (i := 1) (N := some 38) (v := ?_) (a' := ?_) #[true, true, false, false, false, false, false, false, false, false, false, false, false, false] rfl rfl (by kernel_rfl) (fun _ _ _ h => h) (Or.inl ⟨by rfl, ?_⟩) ?_ ?_
      rotate_left
      · intro w'
        go_simp
        with_reducible rfl
      rotate_left
      · simp only [Act.put, List.setIfInBounds_toArray, List.set_cons_zero, List.set_cons_succ, i64_w, i32_w]
        rfl
      refine pure_ (i := 2) (N := some 39) (v := ?_) (a' := ?_) #[true, true, true, false, false, false, false, false, false, false, false, false, false, false] rfl rfl (by kernel_rfl) (fun _ _ _ h => h) (Or.inl ⟨by rfl, ?_⟩) ?_ ?_
      rotate_left
      · intro w'
        go_simp
        with_reducible rfl
      rotate_left
      · simp only [Act.put, List.setIfInBounds_toArray, List.set_cons_zero, List.set_cons_succ, i64_w, i32_w]
        rfl
      refine take_ (i := 3) (N := some 40) (v := ?_) (a' := ?_) #[true, true, true, true, false, false, false, false, false, false, false, false, false, false] rfl rfl (by kernel_rfl) (fun _ _ _ h => h) (Or.inl ⟨by rfl, ?_⟩) hHeld ?_ ?_
      rotate_left
      · rintro w' ⟨s0, s1⟩
        go_simp
        with_reducible rfl
      rotate_left
      · simp only [Act.put, List.setIfInBounds_toArray, List.set_cons_zero, List.set_cons_succ, i64_w, i32_w]
        rfl
      refine pure_ (i := 4) (N := some 41) (v := ?_) (a' := ?_) #[true, true, true, true, true, false, false, false, false, false, false, false, false, false] rfl rfl (by kernel_rfl) (fun _ _ _ h => h) (Or.inl ⟨by rfl, ?_⟩) ?_ ?_
      rotate_left
      · intro w'
        go_simp
        with_reducible rfl
      rotate_left
      · simp only [Act.put, List.setIfInBounds_toArray, List.set_cons_zero, List.set_cons_succ, i64_w, i32_w]
        rfl
      refine pure_ (i := 6) (N := some 43) (v := ?_) (a' := ?_) #[true, true, true, true, true, false, true, false, false, false, false, false, false, false] rfl rfl (by kernel_rfl) (fun _ _ _ h => h) (Or.inl ⟨by rfl, ?_⟩) ?_ ?_
      rotate_left
      · intro w'
        go_simp
        with_reducible rfl
      rotate_left
      · simp only [Act.put, List.setIfInBounds_toArray, List.set_cons_zero, List.set_cons_succ, i64_w, i32_w]
        rfl
      refine pure_ (i := 7) (N := some 44) (v := ?_) (a' := ?_) #[true, true, true, true, true, false, true, true, false, false, false, false, false, false] rfl rfl (by kernel_rfl) (fun _ _ _ h => h) (Or.inl ⟨by rfl, ?_⟩) ?_ ?_
      rotate_left
      · intro w'
        go_simp
        with_reducible rfl
      rotate_left
      · simp only [Act.put, List.setIfInBounds_toArray, List.set_cons_zero, List.set_cons_succ, i64_w, i32_w]
        rfl
      refine pure_ (i := 8) (N := some 45) (v := ?_) (a' := ?_) #[true, true, true, true, true, false, true, true, true, false, false, false, false, false] rfl rfl (by kernel_rfl) (fun _ _ _ h => h) (Or.inl ⟨by rfl, ?_⟩) ?_ ?_
      rotate_left
      · intro w'
        go_simp
        with_reducible rfl
      rotate_left
      · simp only [Act.put, List.setIfInBounds_toArray, List.set_cons_zero, List.set_cons_succ, i64_w, i32_w]
        rfl
      refine take_ (i := 9) (N := some 46) (v := ?_) (a' := ?_) #[true, true, true, true, true, false, true, true, true, true, false, false, false, false] rfl rfl (by kernel_rfl) (fun _ _ _ h => h) (Or.inl ⟨by rfl, ?_⟩) hHeld ?_ ?_
      rotate_left
      · rintro w' ⟨s0, s1⟩
        go_simp
        with_reducible rfl
      rotate_left
      · simp only [Act.put, List.setIfInBounds_toArray, List.set_cons_zero, List.set_cons_succ, i64_w, i32_w]
        rfl
      refine pure_ (i := 10) (N := some 47) (v := ?_) (a' := ?_) #[true, true, true, true, true, false, true, true, true, true, true, false, false, false] rfl rfl (by kernel_rfl) (fun _ _ _ h => h) (Or.inl ⟨by rfl, ?_⟩) ?_ ?_
      rotate_left
      · intro w'
        go_simp
        with_reducible rfl
      rotate_left
      · simp only [Act.put, List.setIfInBounds_toArray, List.set_cons_zero, List.set_cons_succ, i64_w, i32_w]
        rfl
      refine one_ (i := 5) (N := some 42) #[true, true, true, true, true, true, true, true, true, true, true, false, false, false] rfl rfl (by kernel_rfl) (by decide) (fun KK hK => ?_)
      refine goes_ Try.func11 (by kernel_rfl) rfl #[.pointer (some ⟨g, 0, none⟩), .int .i64 q] (by rfl) rfl rfl (by simp only [List.map_toArray, List.map_cons, List.map_nil]; rfl) ?_
      refine HL2.out.mono ?_
      rintro e w9 ⟨rfl, rfl⟩
      refine ⟨_, rfl, ?_⟩
      refine hK.out _ _ hHeld (fun hHeld => ?_)
      clear hK KK
      refine norm_ (a' := ?_) ?_ ?_
      rotate_left
      · show Act.put _ (some 42) _ = _
        simp only [Act.put, List.setIfInBounds_toArray, List.set_cons_zero, List.set_cons_succ, i64_w, i32_w]
        rfl
      refine one_ (i := 11) (N := some 48) #[true, true, true, true, true, true, true, true, true, true, true, true, false, false] rfl rfl (by kernel_rfl) (by decide) (fun KK hK => ?_)
      refine goes_ Try.func40 (by kernel_rfl) rfl #[.pointer (some ⟨gx, 0, none⟩), .int .i64 q] (by rfl) rfl rfl (by simp only [List.map_toArray, List.map_cons, List.map_nil]; rfl) ?_
      refine HR2.out.mono ?_
      rintro e w9 ⟨rfl, rfl⟩
      refine ⟨_, rfl, ?_⟩
      refine hK.out _ _ hHeld (fun hHeld => ?_)
      clear hK KK
      refine norm_ (a' := ?_) ?_ ?_
      rotate_left
      · show Act.put _ (some 48) _ = _
        simp only [Act.put, List.setIfInBounds_toArray, List.set_cons_zero, List.set_cons_succ, i64_w, i32_w]
        rfl
      refine pure_ (i := 12) (N := some 4) (v := ?_) (a' := ?_) #[true, true, true, true, true, true, true, true, true, true, true, true, true, false] rfl rfl (by kernel_rfl) (fun _ _ _ h => h) (Or.inl ⟨by rfl, ?_⟩) ?_ ?_
      rotate_left
      · intro w'
        go_simp
        with_reducible rfl
      rotate_left
      · simp only [Act.put, List.setIfInBounds_toArray, List.set_cons_zero, List.set_cons_succ, i64_w, i32_w]
        rfl
      refine pure_ (i := 13) (N := some 5) (v := ?_) (a' := ?_) #[true, true, true, true, true, true, true, true, true, true, true, true, true, true] rfl rfl (by kernel_rfl) (fun _ _ _ h => h) (Or.inl ⟨by rfl, ?_⟩) ?_ ?_
      rotate_left
      · intro w'
        go_simp
        with_reducible rfl
      rotate_left
      · simp only [Act.put, List.setIfInBounds_toArray, List.set_cons_zero, List.set_cons_succ, i64_w, i32_w]
        rfl
      refine done_ (by kernel_rfl) ?_
      go_wp2_with fail
      go_returns
      exact ⟨_, _, rfl, .of HW.out, Fr.drew [] _⟩
def PushP (L : List OW) (r : List Int) (v er : Int) (r' : List Int) : Prop := (thereB L v = false ∧ er = 141 ∧ r' = r) ∨ (thereB L v = true ∧ 10000 ≤ r.length ∧ er = 4 ∧ r' = r) ∨ (thereB L v = true ∧ r.length < 10000 ∧ er = 0 ∧ r' = r ++ [v])
theorem PM.pushL1 (P : PM w0 w K g gx L h M k) (v : Int) : Calls Try.prog 9 #[ptr g, .int .i64 v] w fun e w' => ∃ er r', PushP L h.roots v er r' ∧ e = .returned (.int .i64 er) ∧ PM w0 w' K g gx L { h with roots := r' } M k ∧ FrP (Gd w0 K) w w' := by
  refine (P.pushL v).mono ?_
  rintro e w' ⟨⟨h1, rfl, h2⟩ | ⟨h1, h3, rfl, h2⟩ | ⟨h1, h3, rfl, h2⟩, hf⟩
  · exact ⟨141, _, .inl ⟨h1, rfl, rfl⟩, rfl, h2, hf⟩
  · exact ⟨4, _, .inr (.inl ⟨h1, h3, rfl, rfl⟩), rfl, h2, hf⟩
  · exact ⟨0, _, .inr (.inr ⟨h1, h3, rfl, rfl⟩), rfl, h2, hf⟩
theorem PM.pushR1 (P : PM w0 w K g gx L h M k) (hM : M.length ≤ 1000000) (v : Int) : Calls Try.prog 71 #[ptr gx, .int .i64 v] w fun e w' => ∃ er r', PushP M k.roots v er r' ∧ e = .returned (.int .i64 er) ∧ PM w0 w' K g gx L h M { k with roots := r' } ∧ FrP (Gd w0 K) w w' := by
  refine (P.pushR hM v).mono ?_
  rintro e w' ⟨⟨h1, rfl, h2⟩ | ⟨h1, h3, rfl, h2⟩ | ⟨h1, h3, rfl, h2⟩, hf⟩
  · exact ⟨141, _, .inl ⟨h1, rfl, rfl⟩, rfl, h2, hf⟩
  · exact ⟨4, _, .inr (.inl ⟨h1, h3, rfl, rfl⟩), rfl, h2, hf⟩
  · exact ⟨0, _, .inr (.inr ⟨h1, h3, rfl, rfl⟩), rfl, h2, hf⟩
theorem Sim.pushB (s : Sim ρ L h M k) (bd : Bnd n L h M k) {a b : Int} (hab : WR ρ a b) {er er' : Int} {r r' : List Int} (hp : PushP L h.roots a er r) (hq : PushP M k.roots b er' r') : er = er' ∧ Sim ρ L { h with roots := r } M { k with roots := r' } ∧ Bnd (n + 1) L { h with roots := r } M { k with roots := r' } := by
  have h1 := s.there hab
  have h2 := s.roots.1
  rcases hp with ⟨a1, -⟩ | ⟨-, a2, rfl, rfl⟩ | ⟨-, a2, rfl, rfl⟩
  · rw [h1.1] at a1; cases a1
  · rcases hq with ⟨c1, -⟩ | ⟨-, c2, rfl, rfl⟩ | ⟨-, c2, rfl, rfl⟩
    · rw [h1.2] at c1; cases c1
    · exact ⟨rfl, s, bd.up⟩
    · omega
  · rcases hq with ⟨c1, -⟩ | ⟨-, c2, rfl, rfl⟩ | ⟨-, c2, rfl, rfl⟩
    · rw [h1.2] at c1; cases c1
    · omega
    · exact ⟨rfl, s.pushS bd hab⟩
set_option maxRecDepth 100000 in
set_option maxHeartbeats 1000000 in
theorem push_both (P : PM w0 w K g gx L h M k) (s : Sim ρ L h M k) (bd : Bnd n L h M k) (hn : n ≤ 1000) (hpr : PrAt w p g gx) (hpK : p ∈ K) {a b er : Int} (hab : er = 0 → WR ρ a b) :
    Calls Try.prog 49 #[ptr p, .int .i64 a, .int .i64 b, .int .i64 er, .int .i64 er] w fun e w' => e = .returned (.bool true) ∧ ∃ h' k', PM w0 w' K g gx L h' M k' ∧ Sim ρ L h' M k' ∧ Bnd (n + 1) L h' M k' ∧ FrP (Gd w0 K) w w' := by
  have c0d : w.drew.cell? ⟨p, 0, none⟩ = some (.pointer (some ⟨g, 0, none⟩)) := hpr.c0
  have c1d : w.drew.cell? ⟨p, 1, none⟩ = some (.pointer (some ⟨gx, 0, none⟩)) := hpr.c1
  have HP0 := Aside0.mk P
  have HPd := Aside0.mk (P.fr0 (Fr.drew [] w))
  have HPR := Aside0.mk hpr
  have HS := Aside0.mk (And.intro s bd)
  have HK := Aside0.mk (show ¬ Gd w0 K p from fun e => e.2 hpK)
  have HM := Aside0.mk (show M.length ≤ 1000000 by have := bd.lm; omega)
  clear P s bd hpr hpK hn
  by_cases he : er = 0
  · have HAB := Aside0.mk (hab he)
    clear hab
    subst he
    have HC := Aside0.mk (HPd.out.pushL1 a)
    unfold ptr
    unfold ptr at HC
    go_enter Try.func49, Try.ntmps49
    go_wp2_with fail
    refine start_ (n := 18) (S := (fun w' => w'.cell? ⟨p, 0, none⟩ = some (.pointer (some ⟨g, 0, none⟩)) ∧ w'.cell? ⟨p, 1, none⟩ = some (.pointer (some ⟨gx, 0, none⟩)))) (ds := []) #[false, false, false, false, false, false, false, false, false, false, false, false, false, false, false, false, false, false] (by kernel_rfl) rfl rfl ⟨c0d, c1d⟩ (fun hHeld => ?_)
    refine pure_ (i := 0) (N := some 14) (v := ?_) (a' := ?_) #[true, false, false, false, false, false, false, false, false, false, false, false, false, false, false, false, false, false] rfl rfl (by kernel_rfl) (fun _ _ _ h => h) (Or.inl ⟨by rfl, ?_⟩) ?_ ?_
    rotate_left
    · intro w'
      go_simp
      with_reducible rfl
    rotate_left
    · simp only [Act.put, List.setIfInBounds_toArray, List.set_cons_zero, List.set_cons_succ, i64_w, i32_w]
      rfl
    refine pure_ (i := 1) (N := some 15) (v := ?_) (a' := ?_) #[true, true, false, false, false, false, false, false, false, false, false, false, false, false, false, false, false, false] rfl rfl (by kernel_rfl) (fun _ _ _ h => h) (Or.inl ⟨by rfl, ?_⟩) ?_ ?_
    rotate_left
    · intro w'
      go_simp
      with_reducible rfl
    rotate_left
    · simp only [Act.put, List.setIfInBounds_toArray, List.set_cons_zero, List.set_cons_succ, i64_w, i32_w]
      rfl
    refine pure_ (i := 2) (N := some 16) (v := ?_) (a' := ?_) #[true, true, true, false, false, false, false, false, false, false, false, false, false, false, false, false, false, false] rfl rfl (by kernel_rfl) (fun _ _ _ h => h) (Or.inl ⟨by rfl, ?_⟩) ?_ ?_
    rotate_left
    · intro w'
      go_simp
      with_reducible rfl
    rotate_left
    · simp only [Act.put, List.setIfInBounds_toArray, List.set_cons_zero, List.set_cons_succ, i64_w, i32_w]
      rfl
    refine pure_ (i := 3) (N := some 17) (v := ?_) (a' := ?_) #[true, true, true, true, false, false, false, false, false, false, false, false, false, false, false, false, false, false] rfl rfl (by kernel_rfl) (fun _ _ _ h => h) (Or.inl ⟨by rfl, ?_⟩) ?_ ?_
    rotate_left
    · intro w'
      go_simp
      with_reducible rfl
    rotate_left
    · simp only [Act.put, List.setIfInBounds_toArray, List.set_cons_zero, List.set_cons_succ, i64_w, i32_w]
      rfl
    refine pure_ (i := 4) (N := some 18) (v := ?_) (a' := ?_) #[true, true, true, true, true, false, false, false, false, false, false, false, false, false, false, false, false, false] rfl rfl (by kernel_rfl) (fun _ _ _ h => h) (Or.inl ⟨by rfl, ?_⟩) ?_ ?_
    rotate_left
    · intro w'
      go_simp
      with_reducible rfl
    rotate_left
    · simp only [Act.put, List.setIfInBounds_toArray, List.set_cons_zero, List.set_cons_succ, i64_w, i32_w]
      rfl
    refine pure_ (i := 5) (N := some 19) (v := ?_) (a' := ?_) #[true, true, true, true, true, true, false, false, false, false, false, false, false, false, false, false, false, false] rfl rfl (by kernel_rfl) (fun _ _ _ h => h) (Or.inl ⟨by rfl, ?_⟩) ?_ ?_
    rotate_left
    · intro w'
      go_simp
      with_reducible rfl
    rotate_left
    · simp only [Act.put, List.setIfInBounds_toArray, List.set_cons_zero, List.set_cons_succ, i64_w, i32_w]
      rfl
    refine take_ (i := 6) (N := some 20) (v := ?_) (a' := ?_) #[true, true, true, true, true, true, true, false, false, false, false, false, false, false, false, false, false, false] rfl rfl (by kernel_rfl) (fun _ _ _ h => h) (Or.inl ⟨by rfl, ?_⟩) hHeld ?_ ?_
    rotate_left
    · rintro w' ⟨s0, s1⟩
      go_simp
      with_reducible rfl
    rotate_left
    · simp only [Act.put, List.setIfInBounds_toArray, List.set_cons_zero, List.set_cons_succ, i64_w, i32_w]
      rfl
    refine pure_ (i := 7) (N := some 21) (v := ?_) (a' := ?_) #[true, true, true, true, true, true, true, true, false, false, false, false, false, false, false, false, false, false] rfl rfl (by kernel_rfl) (fun _ _ _ h => h) (Or.inl ⟨by rfl, ?_⟩) ?_ ?_
    rotate_left
    · intro w'
      go_simp
      with_reducible rfl
    rotate_left
    · simp only [Act.put, List.setIfInBounds_toArray, List.set_cons_zero, List.set_cons_succ, i64_w, i32_w]
      rfl
    refine pure_ (i := 9) (N := some 23) (v := ?_) (a' := ?_) #[true, true, true, true, true, true, true, true, false, true, false, false, false, false, false, false, false, false] rfl rfl (by kernel_rfl) (fun _ _ _ h => h) (Or.inl ⟨by rfl, ?_⟩) ?_ ?_
    rotate_left
    · intro w'
      go_simp
      with_reducible rfl
    rotate_left
    · simp only [Act.put, List.setIfInBounds_toArray, List.set_cons_zero, List.set_cons_succ, i64_w, i32_w]
      rfl
    refine pure_ (i := 10) (N := some 24) (v := ?_) (a' := ?_) #[true, true, true, true, true, true, true, true, false, true, true, false, false, false, false, false, false, false] rfl rfl (by kernel_rfl) (fun _ _ _ h => h) (Or.inl ⟨by rfl, ?_⟩) ?_ ?_
    rotate_left
    · intro w'
      go_simp
      with_reducible rfl
    rotate_left
    · simp only [Act.put, List.setIfInBounds_toArray, List.set_cons_zero, List.set_cons_succ, i64_w, i32_w]
      rfl
    refine pure_ (i := 11) (N := some 25) (v := ?_) (a' := ?_) #[true, true, true, true, true, true, true, true, false, true, true, true, false, false, false, false, false, false] rfl rfl (by kernel_rfl) (fun _ _ _ h => h) (Or.inl ⟨by rfl, ?_⟩) ?_ ?_
    rotate_left
    · intro w'
      go_simp
      with_reducible rfl
    rotate_left
    · simp only [Act.put, List.setIfInBounds_toArray, List.set_cons_zero, List.set_cons_succ, i64_w, i32_w]
      rfl
    refine take_ (i := 12) (N := some 26) (v := ?_) (a' := ?_) #[true, true, true, true, true, true, true, true, false, true, true, true, true, false, false, false, false, false] rfl rfl (by kernel_rfl) (fun _ _ _ h => h) (Or.inl ⟨by rfl, ?_⟩) hHeld ?_ ?_
    rotate_left
    · rintro w' ⟨s0, s1⟩
      go_simp
      with_reducible rfl
    rotate_left
    · simp only [Act.put, List.setIfInBounds_toArray, List.set_cons_zero, List.set_cons_succ, i64_w, i32_w]
      rfl
    refine pure_ (i := 13) (N := some 27) (v := ?_) (a' := ?_) #[true, true, true, true, true, true, true, true, false, true, true, true, true, true, false, false, false, false] rfl rfl (by kernel_rfl) (fun _ _ _ h => h) (Or.inl ⟨by rfl, ?_⟩) ?_ ?_
    rotate_left
    · intro w'
      go_simp
      with_reducible rfl
    rotate_left
    · simp only [Act.put, List.setIfInBounds_toArray, List.set_cons_zero, List.set_cons_succ, i64_w, i32_w]
      rfl
    refine one_ (i := 8) (N := some 22) #[true, true, true, true, true, true, true, true, true, true, true, true, true, true, false, false, false, false] rfl rfl (by kernel_rfl) (by decide) (fun KK hK => ?_)
    refine goes_ Try.func9 (by kernel_rfl) rfl #[.pointer (some ⟨g, 0, none⟩), .int .i64 a] (by rfl) rfl rfl (by simp only [List.map_toArray, List.map_cons, List.map_nil]; rfl) ?_
    refine HC.out.mono ?_
    rintro e w9 ⟨e1, r1, hp1, rfl, hm1, hf1⟩
    have hpr9 := (show PrAt w.drew p g gx from HPR.out).frp hf1 HK.out
    refine ⟨_, rfl, ?_⟩
    refine hK.out _ _ ⟨hpr9.c0, hpr9.c1⟩ (fun hHeld => ?_)
    clear hK KK
    refine norm_ (a' := ?_) ?_ ?_
    rotate_left
    · show Act.put _ (some 22) _ = _
      simp only [Act.put, List.setIfInBounds_toArray, List.set_cons_zero, List.set_cons_succ, i64_w, i32_w]
      rfl
    have HC2 := Aside0.mk (hm1.pushR1 HM.out b)
    have H9 := Aside0.mk (And.intro hp1 (And.intro hf1 hpr9))
    unfold ptr at HC2
    clear hp1 hm1 hf1 hpr9 HC
    refine one_ (i := 14) (N := some 28) #[true, true, true, true, true, true, true, true, true, true, true, true, true, true, true, false, false, false] rfl rfl (by kernel_rfl) (by decide) (fun KK hK => ?_)
    refine goes_ Try.func71 (by kernel_rfl) rfl #[.pointer (some ⟨gx, 0, none⟩), .int .i64 b] (by rfl) rfl rfl (by simp only [List.map_toArray, List.map_cons, List.map_nil]; rfl) ?_
    refine HC2.out.mono ?_
    rintro e w8 ⟨e2, r2, hp2, rfl, hm2, hf2⟩
    have hpr8 := H9.out.2.2.frp hf2 HK.out
    have hse := HS.out.1.pushB HS.out.2 HAB.out H9.out.1 hp2
    obtain ⟨rfl, hse⟩ := hse
    refine ⟨_, rfl, ?_⟩
    refine hK.out _ _ ⟨hpr8.c0, hpr8.c1⟩ (fun hHeld => ?_)
    clear hK KK
    refine norm_ (a' := ?_) ?_ ?_
    rotate_left
    · show Act.put _ (some 28) _ = _
      simp only [Act.put, List.setIfInBounds_toArray, List.set_cons_zero, List.set_cons_succ, i64_w, i32_w]
      rfl
    have H8 := Aside0.mk (And.intro hm2 (And.intro hf2 hse))
    clear hp2 hm2 hf2 hpr8 hse HC2
    refine pure_ (i := 15) (N := some 29) (v := ?_) (a' := ?_) #[true, true, true, true, true, true, true, true, true, true, true, true, true, true, true, true, false, false] rfl rfl (by kernel_rfl) (fun _ _ _ h => h) (Or.inl ⟨by rfl, ?_⟩) ?_ ?_
    rotate_left
    · intro w'
      go_simp
      with_reducible rfl
    rotate_left
    · simp only [Act.put, List.setIfInBounds_toArray, List.set_cons_zero, List.set_cons_succ, i64_w, i32_w]
      rfl
    refine pure_ (i := 16) (N := some 30) (v := ?_) (a' := ?_) #[true, true, true, true, true, true, true, true, true, true, true, true, true, true, true, true, true, false] rfl rfl (by kernel_rfl) (fun _ _ _ h => h) (Or.inl ⟨by rfl, ?_⟩) ?_ ?_
    rotate_left
    · intro w'
      go_simp
      with_reducible rfl
    rotate_left
    · simp only [Act.put, List.setIfInBounds_toArray, List.set_cons_zero, List.set_cons_succ, i64_w, i32_w]
      rfl
    refine pure_ (i := 17) (N := some 10) (v := ?_) (a' := ?_) #[true, true, true, true, true, true, true, true, true, true, true, true, true, true, true, true, true, true] rfl rfl (by kernel_rfl) (fun _ _ _ h => h) (Or.inl ⟨by rfl, ?_⟩) ?_ ?_
    rotate_left
    · intro w'
      go_simp
      with_reducible rfl
    rotate_left
    · simp only [Act.put, List.setIfInBounds_toArray, List.set_cons_zero, List.set_cons_succ, i64_w, i32_w]
      rfl
    refine done_ (by kernel_rfl) ?_
    go_wp2_with fail
    go_returns
    obtain ⟨hm2, hf2, hs2, hb2⟩ := H8.out
    refine ⟨by simp, _, _, hm2, hs2, hb2, ?_⟩
    exact ((FrP.ofFr (Fr.drew [] w)).mono (fun k _ hk => by simp at hk)).trans (H9.out.2.1.trans hf2)
  · clear hab
    have heb : (er != 0) = true := by simpa using he
    go_enter Try.func49, Try.ntmps49
    go_wp2_with fail
    refine start_ (n := 18) (S := (fun w' => w'.cell? ⟨p, 0, none⟩ = some (.pointer (some ⟨g, 0, none⟩)) ∧ w'.cell? ⟨p, 1, none⟩ = some (.pointer (some ⟨gx, 0, none⟩)))) (ds := []) #[false, false, false, false, false, false, false, false, false, false, false, false, false, false, false, false, false, false] (by kernel_rfl) rfl rfl ⟨c0d, c1d⟩ (fun hHeld => ?_)
    refine pure_ (i := 0) (N := some 14) (v := ?_) (a' := ?_) #[true, false, false, false, false, false, false, false, false, false, false, false, false, false, false, false, false, false] rfl rfl (by kernel_rfl) (fun _ _ _ h => h) (Or.inl ⟨by rfl, ?_⟩) ?_ ?_
    rotate_left
    · intro w'
      go_simp
      with_reducible rfl
    rotate_left
    · simp only [Act.put, List.setIfInBounds_toArray, List.set_cons_zero, List.set_cons_succ, i64_w, i32_w]
      rfl
    refine pure_ (i := 1) (N := some 15) (v := ?_) (a' := ?_) #[true, true, false, false, false, false, false, false, false, false, false, false, false, false, false, false, false, false] rfl rfl (by kernel_rfl) (fun _ _ _ h => h) (Or.inl ⟨by rfl, ?_⟩) ?_ ?_
    rotate_left
    · intro w'
      go_simp
      with_reducible rfl
    rotate_left
    · simp only [Act.put, List.setIfInBounds_toArray, List.set_cons_zero, List.set_cons_succ, i64_w, i32_w]
      rfl
    refine pure_ (i := 2) (N := some 16) (v := ?_) (a' := ?_) #[true, true, true, false, false, false, false, false, false, false, false, false, false, false, false, false, false, false] rfl rfl (by kernel_rfl) (fun _ _ _ h => h) (Or.inl ⟨by rfl, ?_⟩) ?_ ?_
    rotate_left
    · intro w'
      go_simp
      with_reducible rfl
    rotate_left
    · simp only [Act.put, List.setIfInBounds_toArray, List.set_cons_zero, List.set_cons_succ, i64_w, i32_w]
      rfl
    refine pure_ (i := 3) (N := some 17) (v := undef) (a' := ?_) #[true, true, true, true, false, false, false, false, false, false, false, false, false, false, false, false, false, false] rfl rfl (by kernel_rfl) (fun _ _ _ h => h) (Or.inr ⟨by rfl, rfl⟩) ?_ ?_
    rotate_left
    · simp only [Act.put, List.setIfInBounds_toArray, List.set_cons_zero, List.set_cons_succ, i64_w, i32_w]
      rfl
    refine pure_ (i := 4) (N := some 18) (v := undef) (a' := ?_) #[true, true, true, true, true, false, false, false, false, false, false, false, false, false, false, false, false, false] rfl rfl (by kernel_rfl) (fun _ _ _ h => h) (Or.inr ⟨by rfl, rfl⟩) ?_ ?_
    rotate_left
    · simp only [Act.put, List.setIfInBounds_toArray, List.set_cons_zero, List.set_cons_succ, i64_w, i32_w]
      rfl
    refine pure_ (i := 5) (N := some 19) (v := undef) (a' := ?_) #[true, true, true, true, true, true, false, false, false, false, false, false, false, false, false, false, false, false] rfl rfl (by kernel_rfl) (fun _ _ _ h => h) (Or.inr ⟨by rfl, rfl⟩) ?_ ?_
    rotate_left
    · simp only [Act.put, List.setIfInBounds_toArray, List.set_cons_zero, List.set_cons_succ, i64_w, i32_w]
      rfl
    refine pure_ (i := 6) (N := some 20) (v := undef) (a' := ?_) #[true, true, true, true, true, true, true, false, false, false, false, false, false, false, false, false, false, false] rfl rfl (by kernel_rfl) (fun _ _ _ h => h) (Or.inr ⟨by rfl, rfl⟩) ?_ ?_
    rotate_left
    · simp only [Act.put, List.setIfInBounds_toArray, List.set_cons_zero, List.set_cons_succ, i64_w, i32_w]
      rfl
    refine pure_ (i := 7) (N := some 21) (v := undef) (a' := ?_) #[true, true, true, true, true, true, true, true, false, false, false, false, false, false, false, false, false, false] rfl rfl (by kernel_rfl) (fun _ _ _ h => h) (Or.inr ⟨by rfl, rfl⟩) ?_ ?_
    rotate_left
    · simp only [Act.put, List.setIfInBounds_toArray, List.set_cons_zero, List.set_cons_succ, i64_w, i32_w]
      rfl
    refine pure_ (i := 8) (N := some 22) (v := undef) (a' := ?_) #[true, true, true, true, true, true, true, true, true, false, false, false, false, false, false, false, false, false] rfl rfl (by kernel_rfl) (fun _ _ _ h => h) (Or.inr ⟨by rfl, rfl⟩) ?_ ?_
    rotate_left
    · simp only [Act.put, List.setIfInBounds_toArray, List.set_cons_zero, List.set_cons_succ, i64_w, i32_w]
      rfl
    refine pure_ (i := 9) (N := some 23) (v := undef) (a' := ?_) #[true, true, true, true, true, true, true, true, true, true, false, false, false, false, false, false, false, false] rfl rfl (by kernel_rfl) (fun _ _ _ h => h) (Or.inr ⟨by rfl, rfl⟩) ?_ ?_
    rotate_left
    · simp only [Act.put, List.setIfInBounds_toArray, List.set_cons_zero, List.set_cons_succ, i64_w, i32_w]
      rfl
    refine pure_ (i := 10) (N := some 24) (v := undef) (a' := ?_) #[true, true, true, true, true, true, true, true, true, true, true, false, false, false, false, false, false, false] rfl rfl (by kernel_rfl) (fun _ _ _ h => h) (Or.inr ⟨by rfl, rfl⟩) ?_ ?_
    rotate_left
    · simp only [Act.put, List.setIfInBounds_toArray, List.set_cons_zero, List.set_cons_succ, i64_w, i32_w]
      rfl
    refine pure_ (i := 11) (N := some 25) (v := undef) (a' := ?_) #[true, true, true, true, true, true, true, true, true, true, true, true, false, false, false, false, false, false] rfl rfl (by kernel_rfl) (fun _ _ _ h => h) (Or.inr ⟨by rfl, rfl⟩) ?_ ?_
    rotate_left
    · simp only [Act.put, List.setIfInBounds_toArray, List.set_cons_zero, List.set_cons_succ, i64_w, i32_w]
      rfl
    refine pure_ (i := 12) (N := some 26) (v := undef) (a' := ?_) #[true, true, true, true, true, true, true, true, true, true, true, true, true, false, false, false, false, false] rfl rfl (by kernel_rfl) (fun _ _ _ h => h) (Or.inr ⟨by rfl, rfl⟩) ?_ ?_
    rotate_left
    · simp only [Act.put, List.setIfInBounds_toArray, List.set_cons_zero, List.set_cons_succ, i64_w, i32_w]
      rfl
    refine pure_ (i := 13) (N := some 27) (v := undef) (a' := ?_) #[true, true, true, true, true, true, true, true, true, true, true, true, true, true, false, false, false, false] rfl rfl (by kernel_rfl) (fun _ _ _ h => h) (Or.inr ⟨by rfl, rfl⟩) ?_ ?_
    rotate_left
    · simp only [Act.put, List.setIfInBounds_toArray, List.set_cons_zero, List.set_cons_succ, i64_w, i32_w]
      rfl
    refine pure_ (i := 14) (N := some 28) (v := undef) (a' := ?_) #[true, true, true, true, true, true, true, true, true, true, true, true, true, true, true, false, false, false] rfl rfl (by kernel_rfl) (fun _ _ _ h => h) (Or.inr ⟨by rfl, rfl⟩) ?_ ?_
    rotate_left
    · simp only [Act.put, List.setIfInBounds_toArray, List.set_cons_zero, List.set_cons_succ, i64_w, i32_w]
      rfl
    refine pure_ (i := 15) (N := some 29) (v := undef) (a' := ?_) #[true, true, true, true, true, true, true, true, true, true, true, true, true, true, true, true, false, false] rfl rfl (by kernel_rfl) (fun _ _ _ h => h) (Or.inr ⟨by rfl, rfl⟩) ?_ ?_
    rotate_left
    · simp only [Act.put, List.setIfInBounds_toArray, List.set_cons_zero, List.set_cons_succ, i64_w, i32_w]
      rfl
    refine pure_ (i := 16) (N := some 30) (v := ?_) (a' := ?_) #[true, true, true, true, true, true, true, true, true, true, true, true, true, true, true, true, true, false] rfl rfl (by kernel_rfl) (fun _ _ _ h => h) (Or.inl ⟨by rfl, ?_⟩) ?_ ?_
    rotate_left
    · intro w'
      go_simp
      with_reducible rfl
    rotate_left
    · simp only [Act.put, List.setIfInBounds_toArray, List.set_cons_zero, List.set_cons_succ, i64_w, i32_w]
      rfl
    refine pure_ (i := 17) (N := some 10) (v := ?_) (a' := ?_) #[true, true, true, true, true, true, true, true, true, true, true, true, true, true, true, true, true, true] rfl rfl (by kernel_rfl) (fun _ _ _ h => h) (Or.inl ⟨by rfl, ?_⟩) ?_ ?_
    rotate_left
    · intro w'
      go_simp
      with_reducible rfl
    rotate_left
    · simp only [Act.put, List.setIfInBounds_toArray, List.set_cons_zero, List.set_cons_succ, i64_w, i32_w]
      rfl
    refine done_ (by kernel_rfl) ?_
    go_wp2_with fail
    go_returns
    exact ⟨rfl, _, _, HPd.out, HS.out.1, HS.out.2.up, (FrP.ofFr (Fr.drew [] w)).mono (fun k _ hk => by simp at hk)⟩
end
end Go.Proofs.Ytlghnldlkbgajaa.S
namespace Go.Proofs.Ytlghnldlkbgajaa.S
open Go.RowKit Go.Proofs.YtlghnldlkbgajaaW.PrintWords Go.Proofs.YtlghnldlkbgajaaW.PrintLast Go.Proofs.YtlghnldlkbgajaaW.PrintMore
set_option linter.unusedVariables false
set_option linter.unusedSimpArgs false
/-- Ints that can be read. -/
def IntsAt (w : World) (A : Option Addr) (xs : List Int) : Prop := ∀ i, i < xs.length → ∃ ad, A = some ad ∧ w.cell? (ad.add i) = some (.int .i64 (xs.getD i 0))
theorem cell_lt {w : World} {a : Addr} {v : Value} (h : w.cell? a = some v) : a.block < w.heap.size := by
  unfold World.cell? at h
  cases hb : w.heap[a.block]? with
  | none => rw [hb] at h; cases h
  | some o => exact (Array.getElem?_eq_some_iff.1 hb).1
theorem IntsAt.new {w w' : World} {A : Option Addr} {xs : List Int} (h : IntsAt w A xs) (hb : Below w.heap.size w w') : IntsAt w' A xs := fun i hi => by
  obtain ⟨ad, e, hc⟩ := h i hi
  exact ⟨ad, e, by rw [hb.cell (cell_lt hc)]; exact hc⟩
/-- A slice of words of one's own, in blocks behind N. -/
structure OwnW (w : World) (N : Nat) (A : Option Addr) (c : Nat) (l : List Int) : Prop where
  own : w.ownsRow 0 28 1 (.slice A l.length c) l.length (l.map (Value.int .i64))
  lo : ∀ k, A = some ⟨k, 0, none⟩ → N ≤ k
theorem OwnW.rowIn {w : World} {N : Nat} {A : Option Addr} {c : Nat} {l : List Int} (h : OwnW w N A c l) : RowIn w A l := fun hne => by
  obtain ⟨q, off, cur, e1, e2, e3⟩ := (WsAt.ofOwn h.own rfl).cells hne
  rcases h.own.2 with ⟨e4, -⟩ | ⟨q2, cap, cur2, e4, -⟩
  · rw [e1] at e4; simp at e4
  · simp only [Value.slice.injEq] at e4
    rw [e1] at e4
    simp only [Option.some.injEq, Addr.mk.injEq] at e4
    obtain ⟨⟨rfl, rfl, -⟩, -⟩ := e4
    exact ⟨q, e1, cur, e2, fun i hi => by have := e3 i hi; rw [Nat.zero_add] at this; exact this⟩
theorem OwnW.frp {w w' : World} {N : Nat} {A : Option Addr} {c : Nat} {l : List Int} {T : Nat → Prop} (h : OwnW w N A c l) (hf : FrP T w w') (hT : ∀ k, A = some ⟨k, 0, none⟩ → ¬ T k) : OwnW w' N A c l := by
  refine ⟨own_frp h.own hf (fun k hk => hT k ?_), h.lo⟩
  rcases h.own.2 with ⟨e4, -⟩ | ⟨q2, cap, cur2, e4, -⟩
  · rw [e4] at hk; simp [Value.ownBlock] at hk
  · rw [e4] at hk
    obtain rfl : q2 = k := by simpa [Value.ownBlock] using hk
    simp only [Value.slice.injEq] at e4
    exact e4.1
theorem OwnW.lt {w : World} {N : Nat} {A : Option Addr} {c : Nat} {l : List Int} (h : OwnW w N A c l) {k : Nat} (hk : A = some ⟨k, 0, none⟩) : k < w.heap.size := by
  rcases h.own.2 with ⟨e4, -⟩ | ⟨q2, cap, cur2, e4, -, e5, -⟩
  · rw [hk] at e4; simp at e4
  · simp only [Value.slice.injEq] at e4
    rw [hk] at e4
    simp only [Option.some.injEq, Addr.mk.injEq] at e4
    obtain ⟨⟨rfl, -, -⟩, -⟩ := e4
    exact blk_lt e5
/-- One more word: what the append gives. -/
theorem OwnW.more {w : World} {N : Nat} {A : Option Addr} {c : Nat} {l : List Int} (h : OwnW w N A c l) (x : Int) {q : Nat} (hq : w.heap[q]? = some (.cells #[.int .i64 x] 28 (0, 0))) (hl : l.length ≤ 100000000) (hN : N ≤ w.heap.size) :
    ∃ A' c' w', (∀ ty, (Builtin.append_ #[33, 33] ty #[.slice A l.length c, .slice (some ⟨q, 0, none⟩) 1 1]).run Try.prog w = .ok (.slice A' (l.length + 1) c') w') ∧ OwnW w' N A' c' (l ++ [x]) ∧ FrP (fun k => A = some ⟨k, 0, none⟩) w w' ∧ (∀ k, A' = some ⟨k, 0, none⟩ → A = some ⟨k, 0, none⟩ ∨ w.heap.size ≤ k) := by
  obtain ⟨A', c', w', h1, h2, h3, h4⟩ := append_from h.own (A := some ⟨q, 0, none⟩) (c := 1) (m := [x]) (fun _ => ⟨_, rfl, fun j hj => by
    have : j = 0 := by simpa using hj
    subst this
    exact (blk_cell hq 0).trans rfl⟩) (by simp; omega)
  refine ⟨A', c', w', h1, ⟨by rw [List.length_append]; exact h2, fun k hk => ?_⟩, h3, h4⟩
  rcases h4 k hk with h5 | h5
  · exact h.lo k h5
  · omega
section
variable {w0 w w' : World} {K : List Nat} {p g gx : Nat} {L : List OW} {h : HH} {M : List OW} {k : RS} {ρ : Int → Int → Prop} {n : Nat}
set_option maxRecDepth 100000 in
set_option maxHeartbeats 2000000 in
theorem words_calls (P : PM w0 w K g gx L h M k) (s : Sim ρ L h M k) (hrl : h.roots.length ≤ 1000000) (hpr : PrAt w p g gx) {A : Option Addr} {c : Nat} {xs : List Int} (hxs : IntsAt w A xs) (hxl : xs.length ≤ 10000000) :
    Calls Try.prog 46 #[ptr p, .slice A xs.length c] w fun e w' => ∃ A1 c1 A2 c2 a b, e = .returned (.tuple #[.slice A1 a.length c1, .slice A2 b.length c2]) ∧ All2 (WX ρ) a b ∧ a.length = xs.length ∧ OwnW w' w.heap.size A1 c1 a ∧ OwnW w' w.heap.size A2 c2 b ∧ Below w.heap.size w w' := by
  have HP := Aside0.mk P
  have HS := Aside0.mk s
  have HPR := Aside0.mk hpr
  have HX := Aside0.mk hxs
  unfold ptr
  clear P s hpr hxs
  go_enter Try.func46, Try.ntmps46
  go_wp2_with fail
  go_loopw [6, 7, 14] (fun s6 s7 v wr => ∃ (i : Nat) (a b : List Int) (A1 A2 : Option Addr) (c1 c2 : Nat), s6 = .slice A1 a.length c1 ∧ s7 = .slice A2 b.length c2 ∧ v = .int .i64 i ∧ Aside0 (i ≤ xs.length ∧ a.length = i ∧ b.length = i) ∧ Aside0 (All2 (WX ρ) a b) ∧ Aside0 (OwnW wr w.heap.size A1 c1 a ∧ OwnW wr w.heap.size A2 c2 b ∧ (∀ k, A1 = some ⟨k, 0, none⟩ → A2 ≠ some ⟨k, 0, none⟩)) ∧ Aside0 (Below w.heap.size w wr)) (fun s6 s7 v wr => xs.length - (intOf v).toNat)
  case atStart => exact ⟨0, [], [], none, none, 0, 0, rfl, rfl, rfl, ⟨⟨Nat.zero_le _, rfl, rfl⟩⟩, ⟨All2.nil _⟩, ⟨⟨World.ownsRow_nil _ _ _ _, fun k hk => by cases hk⟩, ⟨World.ownsRow_nil _ _ _ _, fun k hk => by cases hk⟩, fun k hk => by cases hk⟩, ⟨Below.refl _ _⟩⟩
  case round =>
    obtain ⟨i, a, b, A1, A2, c1, c2, rfl, rfl, rfl, hi, hab, hown, hB⟩ := hrel
    by_cases hlt : i < xs.length
    · have hltb : decide ((i : Int) < (xs.length : Int)) = true := decide_eq_true (by omega)
      have hil : (i : Int) < (xs.length : Int) := by omega
      obtain ⟨ad, rfl, hc⟩ := HX.out.new hB.out i hlt
      generalize xs.getD i 0 = x at *
      have HWD := Aside0.mk (word_calls (HP.out.new hB.out) HS.out hrl (HPR.out.new hB.out) x)
      unfold ptr at HWD
      go_wp2_with fail
      refine HWD.out.mono ?_
      rintro e w1 ⟨u, v, rfl, hw, hf⟩
      clear HWD hc
      have hB1 : Below w.heap.size w w1 := hB.out.trans ((FrP.ofFr hf).below hB.out.size (fun i hi => by simp at hi))
      have ho1 := hown.out.1.frp (FrP.ofFr hf) (fun k _ => by simp)
      have ho2 := hown.out.2.1.frp (FrP.ofFr hf) (fun k _ => by simp)
      have hbx : Below w1.heap.size w1 (w1.alloc (.cells #[.int .i64 u] 28)) := (Below.refl _ _).alloc (Nat.le_refl _) _
      have ho1x := ho1.frp (FrP.ofBelow hbx) (fun k hk => by have := ho1.lt hk; omega)
      have ho2x := ho2.frp (FrP.ofBelow hbx) (fun k hk => by have := ho2.lt hk; omega)
      obtain ⟨A3, c3, w2, hrun1, ho3, hf3, hk3⟩ := ho1x.more u (heap_alloc_new w1 _) (by have := hi.out; omega) (Nat.le_trans hB1.size hbx.size)
      have hs3 := hf3.size
      have hB2 : Below w.heap.size w w2 := (hB1.trans (Below.mono hbx hB1.size)).trans (hf3.below (Nat.le_trans hB1.size hbx.size) (fun k hk => ho1x.lo k hk))
      have ho4 := ho2x.frp hf3 (fun k hk hk1 => hown.out.2.2 k hk1 hk)
      have hby : Below w2.heap.size w2 (w2.alloc (.cells #[.int .i64 v] 28)) := (Below.refl _ _).alloc (Nat.le_refl _) _
      have ho3y := ho3.frp (FrP.ofBelow hby) (fun k hk => by have := ho3.lt hk; omega)
      have ho4y := ho4.frp (FrP.ofBelow hby) (fun k hk => by have := ho4.lt hk; omega)
      obtain ⟨A4, c4, w3, hrun2, ho5, hf5, hk5⟩ := ho4y.more v (heap_alloc_new w2 _) (by have := hi.out; omega) (Nat.le_trans hB2.size hby.size)
      have hd3 : ∀ k, A3 = some ⟨k, 0, none⟩ → A2 ≠ some ⟨k, 0, none⟩ := fun k hk e => by
        rcases hk3 k hk with h1 | h1
        · exact hown.out.2.2 k h1 e
        · have := ho2x.lt e; omega
      have ho6 := ho3y.frp hf5 (fun k hk hk1 => hd3 k hk hk1)
      have hB3 : Below w.heap.size w w3 := (hB2.trans (Below.mono hby hB2.size)).trans (hf5.below (Nat.le_trans hB2.size hby.size) (fun k hk => ho4y.lo k hk))
      have HO := Aside0.mk (show OwnW w3 w.heap.size A3 c3 (a ++ [u]) ∧ OwnW w3 w.heap.size A4 c4 (b ++ [v]) ∧ (∀ k, A3 = some ⟨k, 0, none⟩ → A4 ≠ some ⟨k, 0, none⟩) from
        ⟨ho6, ho5, fun k hk e => by
          rcases hk5 k e with h1 | h1
          · exact hd3 k hk h1
          · have := ho3y.lt hk; omega⟩)
      have HA := Aside0.mk (show All2 (WX ρ) (a ++ [u]) (b ++ [v]) from hab.out.app ⟨rfl, fun j hj => by
        have : j = 0 := by simpa using hj
        subst this; exact hw⟩)
      have HB3 := Aside0.mk hB3
      have hi1 := hi.out
      obtain ⟨-, hal, hbl⟩ := hi.out
      clear hw hf hB1 ho1 ho2 hbx ho1x ho2x ho3 hf3 hk3 hs3 hB2 ho4 hby ho3y ho4y ho5 hf5 hk5 hd3 ho6 hB3 hown hab hB hi1 hal hbl
      go_wp2_with (first | (at_builtin; refine wpList_plain rfl fun KK hK => wp_append_words _ _ 33 rfl _ _ _ _ rfl rfl hrun1 (hK _ _ ?_)) | (at_builtin; refine wpList_plain rfl fun KK hK => wp_append_words _ _ 33 rfl _ _ _ _ rfl rfl hrun2 (hK _ _ ?_)))
      go_roundw
      case rel => exact ⟨i + 1, a ++ [u], b ++ [v], A3, A4, c3, c4, by rw [List.length_append]; rfl, by rw [List.length_append]; rfl, by go_num, ⟨by have := hi.out; exact ⟨hlt, by rw [List.length_append, List.length_singleton]; omega, by rw [List.length_append, List.length_singleton]; omega⟩⟩, HA, HO, HB3⟩
      case measure => simp [intOf]; omega
    · have hltb : decide ((i : Int) < (xs.length : Int)) = false := decide_eq_false (by omega)
      have hil : ¬ (i : Int) < (xs.length : Int) := by omega
      go_wp2_with fail
      go_returns
      exact ⟨A1, c1, A2, c2, a, b, rfl, hab.out, by have := hi.out; omega, hown.out.1, hown.out.2.1, hB.out⟩
end
end Go.Proofs.Ytlghnldlkbgajaa.S
namespace Go.Proofs.Ytlghnldlkbgajaa.S
open Go.RowKit Go.Proofs.YtlghnldlkbgajaaW.PrintWords Go.Proofs.YtlghnldlkbgajaaW.PrintLast Go.Proofs.YtlghnldlkbgajaaW.PrintMore
set_option linter.unusedVariables false
set_option linter.unusedSimpArgs false
section
variable {w0 w w' : World} {K : List Nat} {p g gx : Nat} {L : List OW} {h : HH} {M : List OW} {k : RS} {ρ : Int → Int → Prop} {n : Nat}

def DoesOk (w0 w : World) (K : List Nat) (g gx n : Nat) (e : Ending) (w' : World) : Prop := e = .returned (.bool true) ∧ ∃ ρ' L' h' M' k', PM w0 w' K g gx L' h' M' k' ∧ Sim ρ' L' h' M' k' ∧ Bnd (n + 2) L' h' M' k' ∧ FrP (Gd w0 K) w w'
/-- What stays beside the heaps while a call is done. -/
structure DS (w0 w wc : World) (K K1 : List Nat) (p g gx b0 : Nat) (op kd ix : Int) (V : Value) (tx : ByteArray) : Prop where
  sub : ∀ j ∈ K, j ∈ K1
  fr : FrP (Gd w0 K) w wc
  pr : PrAt wc p g gx
  pk : p ∈ K1
  bx : wc.heap[b0]? = some (.cells #[.int .i64 op, .int .i64 kd, .int .i64 ix, V, .string tx] 59 (0, 0))
  bk : b0 ∈ K1
theorem DS.step {wc wd : World} {K1 : List Nat} {b0 : Nat} {op kd ix : Int} {V : Value} {tx : ByteArray} (d : DS w0 w wc K K1 p g gx b0 op kd ix V tx) (hf : FrP (Gd w0 K1) wc wd) : DS w0 w wd K K1 p g gx b0 op kd ix V tx :=
  ⟨d.sub, d.fr.trans (hf.mono (fun i _ hi => ⟨hi.1, fun hm => hi.2 (d.sub i hm)⟩)), d.pr.frp hf (fun e => e.2 d.pk), d.pk, hf.get d.bx (fun e => e.2 d.bk), d.bk⟩
theorem DS.drew {wc : World} {K1 : List Nat} {b0 : Nat} {op kd ix : Int} {V : Value} {tx : ByteArray} (d : DS w0 w wc K K1 p g gx b0 op kd ix V tx) : DS w0 w wc.drew K K1 p g gx b0 op kd ix V tx :=
  d.step ((FrP.ofFr (Fr.drew [] wc)).mono (fun k _ hk => by simp at hk))
theorem DS.held {wc : World} {K1 : List Nat} {b0 : Nat} {op kd ix : Int} {V : Value} {tx : ByteArray} (d : DS w0 w wc K K1 p g gx b0 op kd ix V tx) :
    wc.cell? ⟨p, 0, none⟩ = some (.pointer (some ⟨g, 0, none⟩)) ∧ wc.cell? ⟨p, 1, none⟩ = some (.pointer (some ⟨gx, 0, none⟩)) ∧ wc.cell? ⟨b0, 1, none⟩ = some (.int .i64 kd) ∧ wc.cell? ⟨b0, 2, none⟩ = some (.int .i64 ix) ∧ wc.cell? ⟨b0, 4, none⟩ = some (.string tx) :=
  ⟨d.pr.c0, d.pr.c1, (blk_cell d.bx 1).trans rfl, (blk_cell d.bx 2).trans rfl, (blk_cell d.bx 4).trans rfl⟩
theorem DS.fin {wc : World} {K1 : List Nat} {b0 : Nat} {op kd ix : Int} {V : Value} {tx : ByteArray} (d : DS w0 w wc K K1 p g gx b0 op kd ix V tx) (P : PM w0 wc K1 g gx L h M k) (s : Sim ρ L h M k) (bd : Bnd (n + 2) L h M k) : DoesOk w0 w K g gx n (.returned (.bool true)) wc :=
  ⟨rfl, ρ, L, h, M, k, P.less d.sub, s, bd, d.fr⟩
def blks (A : Option Addr) : List Nat := match A with | some a => [a.block] | none => []
theorem OwnW.shape {w : World} {N : Nat} {A : Option Addr} {c : Nat} {l : List Int} (h : OwnW w N A c l) : A = none ∨ ∃ q, A = some ⟨q, 0, none⟩ := by
  rcases h.own.2 with ⟨e4, -⟩ | ⟨q2, cap, cur2, e4, -⟩
  · simp only [Value.slice.injEq] at e4; exact .inl e4.1
  · simp only [Value.slice.injEq] at e4; exact .inr ⟨q2, e4.1⟩
theorem OwnW.blk {w : World} {N : Nat} {A : Option Addr} {c : Nat} {l : List Int} (h : OwnW w N A c l) : ∀ j ∈ blks A, N ≤ j ∧ j < w.heap.size := fun j hj => by
  rcases h.shape with rfl | ⟨q, rfl⟩
  · simp [blks] at hj
  · obtain rfl : j = q := by simpa [blks] using hj
    exact ⟨h.lo _ rfl, h.lt rfl⟩
theorem OwnW.gd {w w' : World} {N : Nat} {A : Option Addr} {c : Nat} {l : List Int} {K1 : List Nat} (h : OwnW w N A c l) (hk : ∀ j ∈ blks A, j ∈ K1) (hf : FrP (Gd w0 K1) w w') : OwnW w' N A c l :=
  h.frp hf (fun k e hg => hg.2 (hk k (by rw [e]; simp [blks])))
theorem OwnW.cell0 {w : World} {N : Nat} {A : Option Addr} {c : Nat} {x : Int} {l : List Int} (h : OwnW w N A c (x :: l)) : ∃ q, A = some ⟨q, 0, none⟩ ∧ w.cell? ⟨q, 0, none⟩ = some (.int .i64 x) := by
  obtain ⟨q, e, hr⟩ := h.rowIn (by simp)
  exact ⟨q, e, hr.cell (i := 0) (by simp)⟩
def PopP (r : List Int) (m er : Int) (r' : List Int) : Prop := ((m < 0 ∨ (r.length : Int) < m) ∧ er = 1 ∧ r' = r) ∨ (¬ (m < 0 ∨ (r.length : Int) < m) ∧ er = 0 ∧ r' = r.take (r.length - m.toNat))
def SetRootP (L : List OW) (r : List Int) (i v er : Int) (r' : List Int) : Prop := ((i < 0 ∨ (r.length : Int) ≤ i) ∧ er = 1 ∧ r' = r) ∨ (¬ (i < 0 ∨ (r.length : Int) ≤ i) ∧ thereB L v = false ∧ er = 141 ∧ r' = r) ∨ (¬ (i < 0 ∨ (r.length : Int) ≤ i) ∧ thereB L v = true ∧ er = 0 ∧ r' = r.set i.toNat v)
theorem PM.popL1 (P : PM w0 w K g gx L h M k) (hl : h.roots.length ≤ 1000000) (m : Int) : Calls Try.prog 29 #[ptr g, .int .i64 m] w fun e w' => ∃ er r', PopP h.roots m er r' ∧ e = .returned (.int .i64 er) ∧ PM w0 w' K g gx L { h with roots := r' } M k ∧ FrP (Gd w0 K) w w' := by
  refine (P.popL hl m).mono ?_
  rintro e w' ⟨⟨h1, rfl, h2⟩ | ⟨h1, rfl, h2⟩, hf⟩
  · exact ⟨1, _, .inl ⟨h1, rfl, rfl⟩, rfl, h2, hf⟩
  · exact ⟨0, _, .inr ⟨h1, rfl, rfl⟩, rfl, h2, hf⟩
theorem PM.popR1 (P : PM w0 w K g gx L h M k) (hl : k.roots.length ≤ 1000000) (m : Int) : Calls Try.prog 52 #[ptr gx, .int .i64 m] w fun e w' => ∃ er r', PopP k.roots m er r' ∧ e = .returned (.int .i64 er) ∧ PM w0 w' K g gx L h M { k with roots := r' } ∧ FrP (Gd w0 K) w w' := by
  refine (P.popR hl m).mono ?_
  rintro e w' ⟨⟨h1, rfl, h2⟩ | ⟨h1, rfl, h2⟩, hf⟩
  · exact ⟨1, _, .inl ⟨h1, rfl, rfl⟩, rfl, h2, hf⟩
  · exact ⟨0, _, .inr ⟨h1, rfl, rfl⟩, rfl, h2, hf⟩
theorem PM.setrootL1 (P : PM w0 w K g gx L h M k) (i v : Int) : Calls Try.prog 12 #[ptr g, .int .i64 i, .int .i64 v] w fun e w' => ∃ er r', SetRootP L h.roots i v er r' ∧ e = .returned (.int .i64 er) ∧ PM w0 w' K g gx L { h with roots := r' } M k ∧ FrP (Gd w0 K) w w' := by
  refine (P.setrootL i v).mono ?_
  rintro e w' ⟨⟨h1, rfl, h2⟩ | ⟨h1, h3, rfl, h2⟩ | ⟨h1, h3, rfl, h2⟩, hf⟩
  · exact ⟨1, _, .inl ⟨h1, rfl, rfl⟩, rfl, h2, hf⟩
  · exact ⟨141, _, .inr (.inl ⟨h1, h3, rfl, rfl⟩), rfl, h2, hf⟩
  · exact ⟨0, _, .inr (.inr ⟨h1, h3, rfl, rfl⟩), rfl, h2, hf⟩
theorem PM.setrootR1 (P : PM w0 w K g gx L h M k) (hM : M.length ≤ 1000000) (i v : Int) : Calls Try.prog 53 #[ptr gx, .int .i64 i, .int .i64 v] w fun e w' => ∃ er r', SetRootP M k.roots i v er r' ∧ e = .returned (.int .i64 er) ∧ PM w0 w' K g gx L h M { k with roots := r' } ∧ FrP (Gd w0 K) w w' := by
  refine (P.setrootR hM i v).mono ?_
  rintro e w' ⟨⟨h1, rfl, h2⟩ | ⟨h1, h3, rfl, h2⟩ | ⟨h1, h3, rfl, h2⟩, hf⟩
  · exact ⟨1, _, .inl ⟨h1, rfl, rfl⟩, rfl, h2, hf⟩
  · exact ⟨141, _, .inr (.inl ⟨h1, h3, rfl, rfl⟩), rfl, h2, hf⟩
  · exact ⟨0, _, .inr (.inr ⟨h1, h3, rfl, rfl⟩), rfl, h2, hf⟩
theorem Sim.popB (s : Sim ρ L h M k) (bd : Bnd n L h M k) {m er er' : Int} {r r' : List Int} (hp : PopP h.roots m er r) (hq : PopP k.roots m er' r') : er = er' ∧ Sim ρ L { h with roots := r } M { k with roots := r' } ∧ Bnd n L { h with roots := r } M { k with roots := r' } := by
  have h2 := s.roots.1
  rcases hp with ⟨a1, rfl, rfl⟩ | ⟨a1, rfl, rfl⟩
  · rcases hq with ⟨c1, rfl, rfl⟩ | ⟨c1, rfl, rfl⟩
    · exact ⟨rfl, s, bd⟩
    · rw [h2] at a1; exact absurd a1 c1
  · rcases hq with ⟨c1, rfl, rfl⟩ | ⟨c1, rfl, rfl⟩
    · rw [h2] at a1; exact absurd c1 a1
    · exact ⟨rfl, s.popS bd _⟩
theorem Sim.setrootB (s : Sim ρ L h M k) (bd : Bnd n L h M k) {i v v' er er' : Int} (hv : WX ρ v v') {r r' : List Int} (hp : SetRootP L h.roots i v er r) (hq : SetRootP M k.roots i v' er' r') : er = er' ∧ Sim ρ L { h with roots := r } M { k with roots := r' } ∧ Bnd n L { h with roots := r } M { k with roots := r' } := by
  have h2 := s.roots.1
  have h3 := s.thereX hv
  rcases hp with ⟨a1, rfl, rfl⟩ | ⟨a1, a2, rfl, rfl⟩ | ⟨a1, a2, rfl, rfl⟩
  · rcases hq with ⟨c1, rfl, rfl⟩ | ⟨c1, c2, rfl, rfl⟩ | ⟨c1, c2, rfl, rfl⟩
    · exact ⟨rfl, s, bd⟩
    all_goals (rw [h2] at a1; exact absurd a1 c1)
  · rcases hq with ⟨c1, rfl, rfl⟩ | ⟨c1, c2, rfl, rfl⟩ | ⟨c1, c2, rfl, rfl⟩
    · rw [h2] at a1; exact absurd c1 a1
    · exact ⟨rfl, s, bd⟩
    · rw [h3, c2] at a2; cases a2
  · rcases hq with ⟨c1, rfl, rfl⟩ | ⟨c1, c2, rfl, rfl⟩ | ⟨c1, c2, rfl, rfl⟩
    · rw [h2] at a1; exact absurd c1 a1
    · rw [h3, c2] at a2; cases a2
    · exact ⟨rfl, s.setrootS bd _ (s.upW hv a2)⟩
end
end Go.Proofs.Ytlghnldlkbgajaa.S
