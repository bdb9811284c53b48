
/- heap: the laws' own functions: does, New of bounds that are none, filled. -/
import Derived.Test.YtlghnldlkbgajaaHLw4
import Derived.Test.YtlghnldlkbgajaaHLw6
import Derived.Test.YtlghnldlkbgajaaHRd
namespace Go.Proofs.Ytlghnldlkbgajaa.S
open Go.RowKit Go.Proofs.YtlghnldlkbgajaaW.PrintWords Go.Proofs.YtlghnldlkbgajaaW.PrintLast Go.Proofs.YtlghnldlkbgajaaW.PrintMore
set_option linter.unusedVariables false
set_option linter.unusedSimpArgs false
section
variable {w0 w w' : World} {K : List Nat} {p g gx : Nat} {L : List OW} {h : HH} {M : List OW} {k : RS} {ρ : Int → Int → Prop} {n : Nat}
theorem does_calls (P : PM w0 w K g gx L h M k) (s : Sim ρ L h M k) (bd : Bnd n L h M k) (hn : n ≤ 900) (hpr : PrAt w p g gx) (hpK : p ∈ K) {A : Option Addr} {c : Nat} {xs : List Int} (hxs : IntsAt w A xs) (hxl : xs.length ≤ 10000000) (op kd ix : Int) (tx : ByteArray) (htx : tx.size ≤ 1000000000) :
    Calls Try.prog 25 #[ptr p, .agg #[.int .i64 op, .int .i64 kd, .int .i64 ix, .slice A xs.length c, .string tx]] w (DoesOk w0 w K g gx n) := by
  have hu : IntKind.u64.wrap op = op % 18446744073709551616 := rfl
  have h0 : 0 ≤ (IntKind.u64.wrap op).tmod 9 ∧ (IntKind.u64.wrap op).tmod 9 < 9 := by
    rw [hu, Int.tmod_eq_emod_of_nonneg (by omega)]; omega
  have hc : (IntKind.u64.wrap op).tmod 9 = 0 ∨ (IntKind.u64.wrap op).tmod 9 = 1 ∨ (IntKind.u64.wrap op).tmod 9 = 2 ∨ (IntKind.u64.wrap op).tmod 9 = 3 ∨ (IntKind.u64.wrap op).tmod 9 = 4 ∨ (IntKind.u64.wrap op).tmod 9 = 5 ∨ (IntKind.u64.wrap op).tmod 9 = 6 ∨ (IntKind.u64.wrap op).tmod 9 = 7 ∨ (IntKind.u64.wrap op).tmod 9 = 8 := by omega
  rcases hc with h1 | h1 | h1 | h1 | h1 | h1 | h1 | h1 | h1
  · exact does_make P s bd hn hpr hpK hxs hxl op kd ix tx htx (.inl h1)
  · exact does_make P s bd hn hpr hpK hxs hxl op kd ix tx htx (.inr (.inl h1))
  · exact does_make P s bd hn hpr hpK hxs hxl op kd ix tx htx (.inr (.inr h1))
  · exact does_text P s bd hn hpr hpK hxs hxl op kd ix tx htx h1
  · exact does_set P s bd hn hpr hpK hxs hxl op kd ix tx htx h1
  · exact does_field P s bd hn hpr hpK hxs hxl op kd ix tx htx h1
  · exact does_pop P s bd hn hpr hpK hxs hxl op kd ix tx htx h1
  · exact does_collect P s bd hn hpr hpK hxs hxl op kd ix tx htx h1
  · exact does_setroot P s bd hn hpr hpK hxs hxl op kd ix tx htx h1
set_option maxRecDepth 100000 in
theorem new_no (y o : Int) (h : ¬ ((16 ≤ y ∧ y ≤ 1048576) ∧ (16 ≤ o ∧ o ≤ 1048576))) (w : World) : Calls Try.prog 8 #[.int .i64 y, .int .i64 o] w fun e w' => e = .returned (.tuple #[.pointer none, .int .i64 1]) ∧ w' = w := by
  have hp0 : ∀ w, (Instr.index 64 (.agg #[.int .i64 y, .int .i64 o]) (.int .i64 0)).run Try.prog w = .ok (.int .i64 y) w := pairG y o 0 (by decide)
  have hp1 : ∀ w, (Instr.index 64 (.agg #[.int .i64 y, .int .i64 o]) (.int .i64 1)).run Try.prog w = .ok (.int .i64 o) w := pairG y o 1 (by decide)
  have HN := Aside0.mk h
  clear h
  go_enter Try.func8, Try.ntmps8
  go_wp2_with fail
  go_loopw [11] (fun v wr => (∃ i : Nat, v = .int .i64 i ∧ Aside0 (i ≤ 1 ∧ (i = 1 → 16 ≤ y ∧ y ≤ 1048576))) ∧ Aside0 (wr = w)) (fun v wr => 2 - (intOf v).toNat)
  case atStart => exact ⟨⟨0, rfl, ⟨by omega, fun e => by omega⟩⟩, ⟨rfl⟩⟩
  case round =>
    obtain ⟨⟨i, rfl, hi⟩, HW⟩ := hrel
    obtain rfl := HW.out
    have hi2 := hi.out
    match i, hi2 with
    | 0, _ =>
      by_cases h1 : y < 16
      · have a1 : decide (y < 16) = true := decide_eq_true h1
        go_wp2_with fail
        go_returns
        exact ⟨rfl, rfl⟩
      · have a1 : decide (y < 16) = false := decide_eq_false h1
        by_cases h2 : 1048576 < y
        · have a2 : decide (1048576 < y) = true := decide_eq_true h2
          go_wp2_with fail
          go_returns
          exact ⟨rfl, rfl⟩
        · have a2 : decide (1048576 < y) = false := decide_eq_false h2
          go_wp2_with fail
          go_roundw
          case rel => exact ⟨⟨1, by go_num, ⟨by decide, fun _ => by omega⟩⟩, ⟨trivial⟩⟩
          case measure => simp [intOf]
    | 1, hi3 =>
      have hy := hi3.2 rfl
      have hn := HN.out
      by_cases h1 : o < 16
      · have a1 : decide (o < 16) = true := decide_eq_true h1
        clear hi3 hy hn
        go_wp2_with fail
        go_returns
        exact ⟨rfl, rfl⟩
      · have a1 : decide (o < 16) = false := decide_eq_false h1
        have a2 : decide (1048576 < o) = true := decide_eq_true (by omega)
        clear hi3 hy hn
        go_wp2_with fail
        go_returns
        exact ⟨rfl, rfl⟩
theorem add_at (ad : Addr) (a : Nat) {j : Nat} (hj : 0 < j) : ad.add (a + j) = ⟨(ad.add a).block, (ad.add a).off + j, none⟩ := by
  unfold Addr.add
  rw [if_neg (by omega)]
  split
  · next e => subst e; simp
  · simp [Nat.add_assoc]
/-- Calls that came in. -/
def DosAt (w : World) (A : Option Addr) (n : Nat) : Prop := ∀ i, i < n → ∃ (ad : Addr) (op kd ix : Int) (A1 : Option Addr) (c1 : Nat) (xs : List Int) (tx : ByteArray), A = some ad ∧ w.cell? (ad.add (i * 5 + 0)) = some (.int .i64 op) ∧ w.cell? (ad.add (i * 5 + 1)) = some (.int .i64 kd) ∧ w.cell? (ad.add (i * 5 + 2)) = some (.int .i64 ix) ∧
  w.cell? (ad.add (i * 5 + 3)) = some (.slice A1 xs.length c1) ∧ w.cell? (ad.add (i * 5 + 4)) = some (.string tx) ∧ IntsAt w A1 xs ∧ xs.length ≤ 10000000 ∧ tx.size ≤ 1000000000
/-- Both heaps behind some calls. -/
def St (w0 w : World) (p g gx m : Nat) : Prop := PrAt w p g gx ∧ ∃ ρ L h M k, PM w0 w [p] g gx L h M k ∧ Sim ρ L h M k ∧ Bnd m L h M k
theorem St.new {m : Nat} (H : St w0 w p g gx m) (hb : Below w.heap.size w w') : St w0 w' p g gx m := by
  obtain ⟨h1, ρ, L, h, M, k, h2, h3, h4⟩ := H
  exact ⟨h1.new hb, ρ, L, h, M, k, h2.new hb, h3, h4⟩
theorem St.bel {m : Nat} (H : St w0 w p g gx m) : Below w0.heap.size w0 w := by
  obtain ⟨h1, ρ, L, h, M, k, h2, h3, h4⟩ := H
  exact h2.bel
theorem St.mono {m m' : Nat} (H : St w0 w p g gx m) (hm : m ≤ m') : St w0 w p g gx m' := by
  obtain ⟨h1, ρ, L, h, M, k, h2, h3, h4⟩ := H
  exact ⟨h1, ρ, L, h, M, k, h2, h3, h4.mono hm⟩
theorem St.does {m : Nat} (H : St w0 w p g gx m) (hm : m ≤ 900) {A : Option Addr} {c : Nat} {xs : List Int} (hxs : IntsAt w A xs) (hxl : xs.length ≤ 10000000) (op kd ix : Int) (tx : ByteArray) (htx : tx.size ≤ 1000000000) :
    Calls Try.prog 25 #[ptr p, .agg #[.int .i64 op, .int .i64 kd, .int .i64 ix, .slice A xs.length c, .string tx]] w fun e w' => e = .returned (.bool true) ∧ St w0 w' p g gx (m + 2) := by
  obtain ⟨h1, ρ, L, h, M, k, h2, h3, h4⟩ := H
  refine (does_calls (c := c) h2 h3 h4 hm h1 (by simp) hxs hxl op kd ix tx htx).mono ?_
  rintro e w' ⟨he, ρ', L', h', M', k', h5, h6, h7, h8⟩
  exact ⟨he, h1.frp h8 (fun e => e.2 (by simp)), ρ', L', h', M', k', h5, h6, h7⟩
/-- Both heaps, new, and their pair. -/
theorem St.start {w1 w2 : World} {b : Nat} {y o : Int} (hy : 16 ≤ y ∧ y ≤ 1048576) (ho : 16 ≤ o ∧ o ≤ 1048576) (H1 : HW w1 g b 0 none 0 [] ⟨2, [], y, o, 0, 0, 0, 0, false⟩) (hg : w.heap.size ≤ g) (hb : w.heap.size ≤ b) (hb1 : Below w.heap.size w w1)
    (H2 : HR w2 gx (.slice none 0 0) none 0 [] ⟨y, o, [], 2, 0, 0, false⟩) (hgx : w1.heap.size ≤ gx) (hb2 : Below w1.heap.size w1 w2) : St w (w2.alloc (.cells #[ptr g, ptr gx] 44)) w2.heap.size g gx 0 := by
  have hb3 : Below w2.heap.size w2 (w2.alloc (.cells #[ptr g, ptr gx] 44)) := (Below.refl _ _).alloc (Nat.le_refl _) _
  have hg1 : g < w1.heap.size := H1.foot_lt (.inl rfl)
  have hgb1 : b < w1.heap.size := H1.foot_lt (.inr (.inl rfl))
  have hgx2 : gx < w2.heap.size := H2.foot_lt (.inl (.inl rfl))
  have s1 := hb1.size
  have s2 := hb2.size
  have hF : ∀ i, Foot g b none [] i → i = g ∨ i = b := fun i hi => by
    rcases hi with h | h | h | ⟨x, hx, -⟩
    · exact .inl h
    · exact .inr h
    · cases h
    · cases hx
  have hFR : ∀ i, FootR gx (.slice none 0 0) none [] i → i = gx := fun i hi => by
    rcases hi with (h | h | ⟨x, hx, -⟩) | h
    · exact h
    · cases h
    · cases hx
    · simp [Value.ownBlock] at h
  refine ⟨heap_alloc_new w2 _, fun _ _ => False, [], ⟨2, [], y, o, 0, 0, 0, 0, false⟩, [], ⟨y, o, [], 2, 0, 0, false⟩, ⟨b, none, 0, .slice none 0 0, none, 0, (H1.new hb2).new hb3, H2.new hb3, fun i hi => ?_, fun i hi => ?_, fun i hi hi' => ?_, (below_step hb1 hb2).trans (Below.mono hb3 (by omega)), fun i hi => ?_⟩, ?_, ?_⟩
  · rcases hF i hi with rfl | rfl
    · exact ⟨hg, by simp; omega⟩
    · exact ⟨hb, by simp; omega⟩
  · have := hFR i hi; subst this
    exact ⟨by omega, by simp; omega⟩
  · have := hFR i hi'; subst this
    rcases hF i hi with rfl | rfl <;> omega
  · obtain rfl := List.mem_singleton.1 hi; simp
  · exact ⟨fun u v h => h.elim, by simp, by simp, fun u v u' v' h => h.elim, All2.nil _, .nil, .nil, by simp, by simp, ⟨by show (0:Int) < 2; omega, rfl⟩, ⟨by show (0:Int) < 2; omega, rfl⟩, by simp, by simp, fun o ho => by simp at ho, ⟨rfl, rfl⟩, ⟨rfl, rfl⟩, ⟨rfl, rfl⟩, rfl⟩
  · exact ⟨Nat.le_refl _, Nat.le_refl _, Nat.le_refl _, by show (2:Int) ≤ 2 + 5000000 * ((0:Nat):Int); omega, by show (2:Int) ≤ 2 + 5000000 * ((0:Nat):Int); omega, by show (0:Int) ≤ 0 ∧ (0:Int) ≤ 2 * ((0:Nat):Int) ∧ (0:Int) ≤ 0 ∧ (0:Int) ≤ 2 * ((0:Nat):Int); omega⟩
set_option maxRecDepth 100000 in
set_option maxHeartbeats 2000000 in
theorem filled_calls {A : Option Addr} {c : Nat} (hD : DosAt w A n) (hn : n ≤ 1000000000) : Calls Try.prog 16 #[.slice A n c] w fun e w' => ∃ p g gx, e = .returned (ptr p) ∧ w.heap.size ≤ p ∧ St w w' p g gx 120 := by
  have HD := Aside0.mk hD
  clear hD
  go_enter Try.func16, Try.ntmps16
  go_wp2_with fail
  refine (new_any 60 4000 (by omega) (by omega) w).mono ?_
  rintro e w1 ⟨g, b, rfl, H1, hg, hb, hb1⟩
  have HN1 := Aside0.mk (And.intro H1 (And.intro hg (And.intro hb hb1)))
  clear H1 hg hb hb1
  unfold ptr
  go_wp2_with fail
  refine (rnew_any 60 4000 (by omega) (by omega) w1).mono ?_
  rintro e w2 ⟨gx, rfl, H2, hgx, hb2⟩
  have HST := Aside0.mk (St.start (by omega) (by omega) HN1.out.1 HN1.out.2.1 HN1.out.2.2.1 HN1.out.2.2.2 H2 hgx hb2)
  have HPP := Aside0.mk (show w.heap.size ≤ w2.heap.size from Nat.le_trans HN1.out.2.2.2.size hb2.size)
  clear H2 hgx hb2
  unfold ptr at HST
  unfold ptr
  go_wp2_with fail
  obtain ⟨p, hp⟩ : ∃ p, p = w2.heap.size := ⟨_, rfl⟩
  rw [← hp] at HST HPP
  rw [← hp]
  clear hp HN1
  go_loopw [34] (fun v wr => ∃ i : Nat, v = .int .i64 i ∧ Aside0 (i ≤ n) ∧ Aside0 (St w wr p g gx (2 * min i 60))) (fun v wr => n - (intOf v).toNat)
  case atStart => exact ⟨0, rfl, ⟨Nat.zero_le _⟩, HST⟩
  case round =>
    clear HST
    obtain ⟨i, rfl, hi, HS⟩ := hrel
    by_cases hlt : i < n
    · have hltb : decide ((i : Int) < (n : Int)) = true := decide_eq_true (by omega)
      have hil : (i : Int) < (n : Int) := by omega
      obtain ⟨ad, op, kd, ix, A1, c1, xs, tx, rfl, z0, z1, z2, z3, z4, hxs, hxl, htx⟩ := HD.out i hlt
      have hbw := HS.out.bel
      replace z0 := (hbw.cell (cell_lt z0)).trans z0
      replace z1 := (hbw.cell (cell_lt z1)).trans z1
      replace z2 := (hbw.cell (cell_lt z2)).trans z2
      replace z3 := (hbw.cell (cell_lt z3)).trans z3
      replace z4 := (hbw.cell (cell_lt z4)).trans z4
      rw [Nat.add_zero] at z0
      rw [add_at _ _ (by omega)] at z1 z2 z3 z4
      have hba : Below wr.heap.size wr (wr.alloc (.cells #[.int .i64 op, .int .i64 kd, .int .i64 ix, .slice A1 xs.length c1, .string tx] 59)) := (Below.refl _ _).alloc (Nat.le_refl _) _
      have HSA := Aside0.mk (HS.out.new hba)
      have HX := Aside0.mk (And.intro ((hxs.new hbw).new hba) (And.intro hxl htx))
      clear hxs hbw hba hxl htx
      by_cases h60 : i < 60
      · have h60b : decide ((i : Int) < 60) = true := decide_eq_true (by omega)
        have HDC := Aside0.mk (HSA.out.does (c := c1) (by omega) HX.out.1 HX.out.2.1 op kd ix tx HX.out.2.2)
        unfold ptr at HDC
        go_wp2_with fail
        refine HDC.out.mono ?_
        rintro e w5 ⟨rfl, hst⟩
        have HS5 := Aside0.mk hst
        clear hst HDC z0 z1 z2 z3 z4
        go_wp2_with fail
        go_roundw
        case rel => exact ⟨i + 1, by go_num, ⟨hlt⟩, ⟨HS5.out.mono (by omega)⟩⟩
        case measure => simp [intOf]; omega
      · have h60b : decide ((i : Int) < 60) = false := decide_eq_false (by omega)
        go_wp2_with fail
        go_roundw
        case rel => exact ⟨i + 1, by go_num, ⟨hlt⟩, ⟨HSA.out.mono (by omega)⟩⟩
        case measure => simp [intOf]; omega
    · have hltb : decide ((i : Int) < (n : Int)) = false := decide_eq_false (by omega)
      have hil : ¬ (i : Int) < (n : Int) := by omega
      go_wp2_with fail
      go_returns
      exact ⟨p, rfl, HPP.out, g, gx, HS.out.mono (by omega)⟩
end
end Go.Proofs.Ytlghnldlkbgajaa.S
