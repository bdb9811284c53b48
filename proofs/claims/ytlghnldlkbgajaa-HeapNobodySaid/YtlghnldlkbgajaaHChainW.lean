/- heap: HeapChain of three pairs, walked. -/
import Derived.Test.YtlghnldlkbgajaaHChain
import Derived.Test.YtlghnldlkbgajaaDx8
namespace Go.Proofs.Ytlghnldlkbgajaa.S
open Go.RowKit Go.Proofs.YtlghnldlkbgajaaW.PrintWords Go.Proofs.YtlghnldlkbgajaaW.PrintLast Go.Proofs.YtlghnldlkbgajaaW.PrintMore
set_option linter.unusedVariables false
set_option linter.unusedSimpArgs false

/-- What is got where the word is that of so many pairs. -/
def gotL : Nat → List Int
  | 0 => [5, 3, 1]
  | 1 => [5, 3]
  | 2 => [5]
  | _ => []
theorem own_mono {w : World} {base base' n size : Nat} {e : TypeId} {v : Value} {xs : List Value} (h : w.ownsRow base e size v n xs) (hb : base' ≤ base) : w.ownsRow base' e size v n xs := by
  refine ⟨h.1, ?_⟩
  rcases h.2 with h | ⟨g, cap, cur, a, b, c⟩
  · exact .inl h
  · exact .inr ⟨g, cap, cur, a, Nat.le_trans hb b, c⟩
theorem turned : D.api_Word_15.f 5 [5, 3, 1] = some [1, 3, 5] := by
  first | rfl | decide | kernel_rfl | (simp [D.api_Word_15.f, D.api_Word_15.l0, wrap64, rd])
theorem got_step (j : Nat) (hj : j < 3) : gotL (j + 1) ++ [2 * (j : Int) + 1] = gotL j := by
  match j, hj with
  | 0, _ => rfl
  | 1, _ => rfl
  | 2, _ => rfl
theorem got_len (k : Nat) (hk : k ≤ 3) : (gotL k).length = 3 - k := by
  match k, hk with
  | 0, _ => rfl
  | 1, _ => rfl
  | 2, _ => rfl
  | 3, _ => rfl
theorem lit_cell (w : World) (x : Int) : ∀ (j : Nat) (u : Value), [Value.int .i64 x][j]? = some u → (w.alloc (.cells #[.int .i64 x] 28)).cell? ((⟨w.heap.size, 0, none⟩ : Addr).add j) = some u := fun j u hj => by
  cases j with
  | zero =>
    rw [show (⟨w.heap.size, 0, none⟩ : Addr).add 0 = ⟨w.heap.size, 0, none⟩ from by simp [Addr.add]]
    exact (blk_cell (heap_alloc_new w _) 0).trans hj
  | succ j => simp at hj
theorem ch_f0 {w0 w : World} {g b rb rc n j : Nat} {nx r u : Int} (h : ChI w0 w g b rb rc nx r u n) (hj : j < n) :
    Calls Try.prog 14 #[ptr g, .int .i64 (4 * (j : Int) + 2), .int .i64 0] w fun e w' => e = .returned (.tuple #[.int .i64 (2 * (j : Int) + 1), .int .i64 0]) ∧ w' = w := ch_field h hj 0 (by decide)
theorem ch_f1 {w0 w : World} {g b rb rc n j : Nat} {nx r u : Int} (h : ChI w0 w g b rb rc nx r u n) (hj : j < n) :
    Calls Try.prog 14 #[ptr g, .int .i64 (4 * (j : Int) + 2), .int .i64 1] w fun e w' => e = .returned (.tuple #[.int .i64 (rI j), .int .i64 0]) ∧ w' = w := ch_field h hj 1 (by decide)
set_option maxRecDepth 100000 in
set_option maxHeartbeats 2000000 in
theorem chain_calls (w : World) : Calls Try.prog 3 #[.int .i64 3, .int .i64 1] w fun e w' => e = .returned (.bool true) ∧ Below w.heap.size w w' := by
  go_enter Try.func3, Try.ntmps3
  go_wp2_with fail
  refine (new_ok _).mono ?_
  rintro e w1 ⟨g, b, rfl, hnew, hg, hb, hbl⟩
  have HN := Aside0.mk hnew
  have HG := Aside0.mk (And.intro hg hb)
  have HB := Aside0.mk hbl
  have HLT := Aside0.mk (blk_lt hnew.hp)
  clear hnew hg hb hbl
  unfold ptr
  go_wp2_with fail
  refine (push_ok HN.out).mono ?_
  rintro e w2 ⟨rfl, rb, rc, hp, hrb, hf⟩
  have HC := Aside0.mk (show ChI w w2 g b rb rc (4 * ((0 : Nat) : Int) + 2) (rI 0) (5 * ((0 : Nat) : Int)) 0 from ⟨⟨[], hp, fun j hj => absurd hj (Nat.not_lt_zero j), by simp⟩, HB.out.trans (hf.below HB.out.size (by intro k hk; simp at hk; rw [hk]; exact HG.out.1)), HG.out.1, HG.out.2, Nat.le_trans HB.out.size hrb⟩)
  clear hp hrb hf HN HG HB HLT
  go_wp2_with fail
  go_loopw [38] (fun v wr => ∃ i : Nat, v = .int .i64 i ∧ Aside0 (i ≤ 3) ∧ Aside0 (ChI w wr g b rb rc (4 * (i : Int) + 2) (rI i) (5 * (i : Int)) i)) (fun v wr => 3 - (intOf v).toNat)
  case atStart => exact ⟨0, rfl, ⟨by decide⟩, HC⟩
  case round =>
    clear HC
    obtain ⟨i, rfl, hi, H⟩ := hrel
    by_cases hlt : i < 3
    · have hlt' : ((i : Int) < 3) := by omega
      have hltb : decide ((i : Int) < 3) = true := decide_eq_true hlt'
      have e1 : IntKind.i64.wrap (2 * (i : Int)) = 2 * (i : Int) := by rw [IntKind.wrap_i64]; omega
      have e2 : IntKind.i64.wrap (2 * (i : Int) + 1) = 2 * (i : Int) + 1 := by rw [IntKind.wrap_i64]; omega
      go_wp2_with fail
      refine (ch_root H.out).mono ?_
      rintro e w3 ⟨rfl, rfl⟩
      have HR := Aside0.mk (row2 w3 (2 * (i : Int) + 1) (rI i))
      have HA := Aside0.mk (H.out.alloc (.cells #[.int .i64 (2 * (i : Int) + 1), .int .i64 (rI i)] 28))
      clear H
      go_wp2_with fail
      refine (ch_pair HA.out hlt HR.out).mono ?_
      rintro e w4 ⟨rfl, hc⟩
      have HC4 := Aside0.mk hc
      clear hc HA HR
      go_wp2_with fail
      refine (ch_set HC4.out (by omega) (Nat.lt_succ_self i)).mono ?_
      rintro e w5 ⟨rfl, hc⟩
      have HC5 := Aside0.mk hc
      clear hc HC4
      go_wp2_with fail
      go_loopw [61] (fun v wq => (v = .int .i64 0 ∧ Aside0 (ChI w wq g b rb rc (4 * (i : Int) + 4) (4 * (i : Int) + 2) (5 * (i : Int) + 3) (i + 1))) ∨ (v = .int .i64 1 ∧ Aside0 (ChI w wq g b rb rc (4 * ((i + 1 : Nat) : Int) + 2) (rI (i + 1)) (5 * ((i + 1 : Nat) : Int)) (i + 1)))) (fun v wq => 1 - (intOf v).toNat)
      case atStart => exact .inl ⟨rfl, HC5⟩
      case round =>
        clear HC5
        rcases hrel with ⟨rfl, H⟩ | ⟨rfl, H⟩
        · go_wp2_with fail
          refine (ch_root H.out).mono ?_
          rintro e w6 ⟨rfl, rfl⟩
          have HR := Aside0.mk (row1 w6 (4 * (i : Int) + 2))
          have HA := Aside0.mk (H.out.alloc (.cells #[.int .i64 (4 * (i : Int) + 2)] 28))
          clear H
          go_wp2_with fail
          refine (ch_junk HA.out hlt HR.out).mono ?_
          rintro e w7 ⟨rfl, hc⟩
          have HC7 := Aside0.mk hc
          clear hc HA HR
          go_wp2_with fail
          go_roundw
          case rel => exact .inr ⟨by go_num, HC7⟩
          case measure => simp [intOf]
        · go_wp2_with fail
          go_roundw
          case rel => exact ⟨i + 1, by go_num, ⟨hlt⟩, H⟩
          case measure => simp [intOf]; omega
    · have hltb : decide ((i : Int) < 3) = false := decide_eq_false (by omega)
      obtain rfl : i = 3 := by have := hi.out; omega
      go_wp2_with fail
      refine (ch_root H.out).mono ?_
      rintro e w3 ⟨rfl, rfl⟩
      go_wp2_with fail
      obtain ⟨B, hBs⟩ : ∃ B, B = w3.heap.size := ⟨_, rfl⟩
      have HBS := Aside0.mk hBs
      clear hBs
      go_loopw [12, 13] (fun v12 v13 wq => ∃ k : Nat, v13 = .int .i64 (rI k) ∧ Aside0 (k ≤ 3) ∧ Aside0 (wq.ownsRow B 28 1 v12 (3 - k) ((gotL k).map (Value.int .i64))) ∧ Aside0 (w.heap.size ≤ B ∧ B ≤ wq.heap.size) ∧ Aside0 (Below B w3 wq)) (fun v12 v13 wq => (intOf v13).toNat)
      case atStart => exact ⟨3, by first | rfl | simp, ⟨Nat.le_refl _⟩, ⟨World.ownsRow_nil _ _ _ _⟩, ⟨by rw [HBS.out]; exact H.out.below.size, by rw [HBS.out]; exact Nat.le_refl _⟩, ⟨Below.refl _ _⟩⟩
      case round =>
        obtain ⟨k, rfl, hk, HO, HS, HB⟩ := hrel
        have HC := Aside0.mk (H.out.below' (w' := wr) (by have := HB.out; rw [HBS.out] at this; exact this))
        obtain ⟨i0, hi0, hz0, hz1, hz2⟩ := info_parts word_info
        have HI := Aside0.mk (And.intro hi0 (And.intro hz0 (And.intro hz1 hz2)))
        clear hi0 hz0 hz1 hz2
        cases k with
        | succ j =>
          have hj : j < 3 := by have := hk.out; omega
          rw [show rI (j + 1) = 4 * (j : Int) + 2 from rfl]
          go_wp2_with fail
          refine (ch_kind HC.out hj).mono ?_
          rintro e w4 ⟨rfl, rfl⟩
          go_wp2_with fail
          refine (ch_f0 HC.out hj).mono ?_
          rintro e w5 ⟨rfl, rfl⟩
          go_wp2_with (at_builtin; refine wpList_append_own _ rfl _ _ 33 rfl B 28 i0 (.int .i64 0) 1 8 Try.underlying33 HI.out.1 HI.out.2.1 HI.out.2.2.1 HI.out.2.2.2 rfl (by decide) _ (3 - (j + 1)) ((gotL (j + 1)).map (Value.int .i64)) rfl (HO.out.alloc _) ⟨w5.heap.size, 0, none⟩ 1 1 [.int .i64 (2 * (j : Int) + 1)] rfl ?qc1 ?qc2 ?qc3 ?qc4 ?qc5 ?qc6 ?_)
          case qc1 => rfl
          case qc2 => exact lit_cell _ _
          case qc3 => intro u hu; simp at hu; subst hu; rfl
          case qc4 => unfold maxLen; omega
          case qc5 => omega
          case qc6 => simp; have := HS.out.2; omega
          intro v' w6 hown hgrow hnil
          have hb6 : Below B w3 w6 := (HB.out.alloc HS.out.2 _).grown hgrow (by have := HS.out.2; simp; omega) (by intro k hk; exact (HO.out.lt k hk).1)
          have HB6 := Aside0.mk hb6
          have ho6 : w6.ownsRow B 28 1 v' (3 - j) ((gotL j).map (Value.int .i64)) := by
            have e : 2 - j + 1 = 3 - j := by omega
            rw [← got_step j hj, List.map_append, ← e]
            exact hown
          have HO6 := Aside0.mk ho6
          have HS6 := Aside0.mk (show w.heap.size ≤ B ∧ B ≤ w6.heap.size from ⟨HS.out.1, by rw [HBS.out]; exact hb6.size⟩)
          clear hown hgrow hnil hb6 ho6 HO HS HB
          have HC6 := Aside0.mk (H.out.below' (w' := w6) (by have := HB6.out; rw [HBS.out] at this; exact this))
          clear HC
          go_wp2_with fail
          refine (ch_f1 HC6.out hj).mono ?_
          rintro e w7 ⟨rfl, rfl⟩
          go_wp2_with fail
          go_roundw
          case rel => exact ⟨j, rfl, ⟨by omega⟩, HO6, HS6, HB6⟩
          case measure =>
            cases j with
            | zero => simp [intOf, rI]
            | succ j => simp [intOf, rI]; omega
        | zero =>
          rw [show rI 0 = 0 from rfl]
          go_wp2_with fail
          refine (ch_kind0 HC.out).mono ?_
          rintro e w4 ⟨rfl, hb4⟩
          have HW := Aside0.mk (below_step HC.out.below hb4)
          have ho4 := World.ownsRow.kept HO.out (w' := w4) (row := none) ⟨hb4.os, hb4.tape, hb4.output, hb4.size, fun k hk _ => hb4.block k hk⟩ (Decidable.em _)
          have hBw : w.heap.size ≤ B := HS.out.1
          clear HO HS HB HC hb4 H HI
          rcases ho4.2 with ⟨-, h2⟩ | ⟨gb, cap, cur, h1, h2, h3, h4, h5, h6, h7⟩
          · omega
          · subst h1
            have HR := Aside0.mk (show Kd.R (Kd.int .i64) 28 w4 w.heap.size (fun _ => True) (.slice (some ⟨gb, 0, none⟩) 3 cap) [5, 3, 1] from Kd.R_of_own (own_mono ho4 hBw) (fun _ _ => trivial))
            clear ho4 h2 h3 h4 h5 h6 h7 hBw
            go_wp2_with fail
            refine (D.api_Word_15.calls 5 (fun _ => True) _ [5, 3, 1] [1, 3, 5] w _ HW.out HR.out turned).mono ?_
            rintro e w5 ⟨rfl, hr, hb5, -⟩
            have HW5 := Aside0.mk hb5
            have q0 : w5.cell? ⟨gb, 0, none⟩ = some (.int .i64 1) := (Kd.R_cell 0 hr 0 (by decide) (by decide)).1
            have q1 : w5.cell? ⟨gb, 1, none⟩ = some (.int .i64 3) := (Kd.R_cell 0 hr 1 (by decide) (by decide)).1
            have q2 : w5.cell? ⟨gb, 2, none⟩ = some (.int .i64 5) := (Kd.R_cell 0 hr 2 (by decide) (by decide)).1
            clear hr hb5 HR HW
            go_wp2_with fail
            go_loopw [101] (fun v wq => ∃ i : Nat, v = .int .i64 i ∧ Aside0 (i ≤ 3) ∧ Aside0 (wq = w5)) (fun v wq => 3 - (intOf v).toNat)
            case atStart => exact ⟨0, rfl, ⟨by decide⟩, ⟨rfl⟩⟩
            case round =>
              obtain ⟨i, rfl, hi, HE⟩ := hrel
              obtain rfl := HE.out
              have hi3 := hi.out
              clear hi
              match i, hi3 with
              | 0, _ =>
                go_wp2_with fail
                go_roundw
                case rel => exact ⟨1, by go_num, ⟨by decide⟩, ⟨trivial⟩⟩
                case measure => simp [intOf]
              | 1, _ =>
                go_wp2_with fail
                go_roundw
                case rel => exact ⟨2, by go_num, ⟨by decide⟩, ⟨trivial⟩⟩
                case measure => simp [intOf]
              | 2, _ =>
                go_wp2_with fail
                go_roundw
                case rel => exact ⟨3, by go_num, ⟨by decide⟩, ⟨trivial⟩⟩
                case measure => simp [intOf]
              | 3, _ =>
                go_wp2_with fail
                go_returns
                exact ⟨rfl, HW5.out⟩
end Go.Proofs.Ytlghnldlkbgajaa.S
