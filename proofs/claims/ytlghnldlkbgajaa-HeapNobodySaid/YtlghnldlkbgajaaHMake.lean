/- heap: Make, SetRoot. -/
import Derived.Test.YtlghnldlkbgajaaHPlace
namespace Go.Proofs.Ytlghnldlkbgajaa.S
open Go.RowKit Go.Proofs.YtlghnldlkbgajaaW.PrintWords Go.Proofs.YtlghnldlkbgajaaW.PrintLast Go.Proofs.YtlghnldlkbgajaaW.PrintMore
set_option linter.unusedVariables false
set_option linter.unusedSimpArgs false

/-- A word that is there. -/
def Th (L : List Ob) (x : Int) : Prop := (bits BinOp.and .i64 x 1 == 1) = true ∨ x = 0 ∨ ∃ o ∈ L, o.k = x ∧ (bits BinOp.and .i64 x 1 == 1) = false ∧ 0 < x
theorem there_any {w : World} {g b rb rc : Nat} {L : List Ob} {nx r u : Int} (h : HpAt w g b rb rc L nx r u) {x : Int} (hx : Th L x) : Calls Try.prog 32 #[ptr g, .int .i64 x] w fun e w' => e = .returned (.bool true) ∧ w' = w := by
  rcases hx with hx | rfl | ⟨o, ho, rfl, h1, h2⟩
  · exact there_odd _ _ hx
  · exact there_zero _
  · exact there_ok h ho h1 h2

set_option maxRecDepth 100000 in
set_option maxHeartbeats 1000000 in
theorem make1 {w : World} {g b rb rc : Nat} {L : List Ob} {nx r u : Int} (h : HpAt w g b rb rc L nx r u) {fa : Nat} {fs : List Int} (hlen : fs.length = 2) (hrow : Row w fa fs) (hth : ∀ i, i < 2 → Th L (fs.getD i 0)) (hu0 : 0 ≤ u) (hu : u + 3 ≤ 32) (hnx : 0 ≤ nx ∧ nx ≤ 1000000) :
    Calls Try.prog 10 #[ptr g, .int .i64 1, .slice (some ⟨fa, 0, none⟩) 2 2] w fun e w' => e = .returned (.tuple #[.int .i64 nx, .int .i64 0]) ∧ ∃ x : Ob, x.k = nx ∧ x.kind = 1 ∧ x.fs = fs ∧ HpAt w' g b rb rc (L ++ [x]) (nx + 2) r (u + 3) ∧ Fr [g, b] w w' := by
  have H := Aside0.mk h
  have HR := Aside0.mk hrow
  have HT := Aside0.mk hth
  have HL := Aside0.mk hlen
  clear h hrow hth hlen
  unfold ptr
  go_enter Try.func10, Try.ntmps10
  go_wp2_with fail
  refine (made_ok H.out).mono ?_
  rintro e w1 ⟨rfl, rfl⟩
  go_wp2_with fail
  refine (fixed1 _).mono ?_
  rintro e w2 ⟨rfl, hb2⟩
  have H2 := Aside0.mk (H.out.fr0 (Fr.ofBelow hb2 []))
  have HR2 := Aside0.mk (HR.out.fr (Fr.ofBelow hb2 []) (by simp))
  have HF2 := Aside0.mk (Fr.ofBelow hb2 [])
  clear H HR hb2
  go_wp2_with fail
  go_loopw [39] (fun v wr => (∃ i : Nat, v = .int .i64 i ∧ Aside0 (i ≤ 2)) ∧ Aside0 (HpAt wr g b rb rc L nx r u) ∧ Aside0 (Row wr fa fs) ∧ Aside0 (Fr [] w1 wr)) (fun v wr => 2 - (intOf v).toNat)
  case atStart => exact ⟨⟨0, rfl, ⟨Nat.zero_le _⟩⟩, H2, HR2, HF2⟩
  case round =>
    clear H2 HR2 HF2
    obtain ⟨⟨i, rfl, hi⟩, H2, HR2, HF2⟩ := hrel
    by_cases hlt : i < 2
    · have hlt' : ((i : Int) < 2) := by omega
      have hltb : decide ((i : Int) < 2) = true := decide_eq_true hlt'
      have hc := HR2.out.cell (i := i) (by rw [HL.out]; exact hlt)
      obtain ⟨x, hx⟩ : ∃ x, x = fs.getD i 0 := ⟨_, rfl⟩
      have HX := Aside0.mk (HT.out i hlt)
      rw [← hx] at HX hc
      clear hx
      go_wp2_with fail
      refine (there_any H2.out HX.out).mono ?_
      rintro e w3 ⟨rfl, rfl⟩
      go_wp2_with fail
      go_roundw
      case rel => exact ⟨⟨i + 1, by go_num, ⟨hlt⟩⟩, H2, HR2, HF2⟩
      case measure => simp [intOf]; omega
    · have hltb : decide ((i : Int) < 2) = false := decide_eq_false (by omega)
      go_wp2_with fail
      rw [show (2 : Nat) = fs.length from HL.out.symm]
      refine (clone_ok (xs := fs) (c := fs.length) (by rw [HL.out]; decide) (by rw [HL.out]; decide) (fun j hj => by
        rw [show (⟨fa, 0, none⟩ : Addr).add j = ⟨fa, j, none⟩ from by unfold Addr.add; split <;> simp_all]
        exact HR2.out.cell hj)).mono ?_
      rintro e w3 ⟨fb, fc, rfl, hrw, hfb, hb3⟩
      rw [HL.out]
      have hf3 : Fr [] w1 w3 := HF2.out.trans (Fr.ofBelow hb3 [])
      have h3 := H2.out.fr0 (Fr.ofBelow hb3 [])
      have hfr : fb ≠ rb := by have := H2.out.rt.lt; omega
      obtain ⟨X, hX⟩ : ∃ X : Ob, X = ⟨0, w3.heap.size, 1, fs, fb, fc⟩ := ⟨_, rfl⟩
      have hob : X.obj = .cells #[.int .i64 1, .slice (some ⟨fb, 0, none⟩) 2 fc, .string ⟨#[]⟩, .bool false, .bool false] 78 (0, 0) := by rw [hX]; unfold Ob.obj; rw [HL.out]
      have H4 := Aside0.mk (h3.fr0 (Fr.alloc [] w3 X.obj))
      have HF4 := Aside0.mk (hf3.trans (Fr.alloc [] w3 X.obj))
      have HO4 := Aside0.mk (heap_alloc_new w3 X.obj)
      have HR4 := Aside0.mk (hrw.fr (Fr.alloc [] w3 X.obj) (by simp))
      have HXX := Aside0.mk hX
      have HFR := Aside0.mk hfr
      rw [hob] at H4 HF4 HO4 HR4
      have HOB := Aside0.mk hob
      clear H2 HR2 HF2 hf3 h3 hfr hob hX hrw hb3 hfb
      go_wp2_with fail
      refine (place_ok H4.out ⟨0, w3.heap.size, 1, fs, fb, fc⟩ (by simp only [Ob.obj, HL.out]; exact HO4.out) HR4.out HFR.out (by simp only [HL.out]; decide) hu0 (by simp only [HL.out]; omega) hnx).mono ?_
      rintro e w4 ⟨rfl, hp4, hf4⟩
      have HP := Aside0.mk hp4
      have HF := Aside0.mk ((HF4.out.mono (T' := [g, b]) (by simp)).trans hf4)
      clear hp4 hf4 H4 HF4 HO4 HR4
      go_wp2_with fail
      go_returns
      have hp := HP.out
      simp only [HL.out] at hp
      exact ⟨rfl, _, rfl, rfl, rfl, (by rw [show (u + 3 : Int) = u + (1 + ((2 : Nat) : Int)) from by omega]; exact hp), HF.out⟩

set_option maxRecDepth 100000 in
set_option maxHeartbeats 1000000 in
theorem make2 {w : World} {g b rb rc : Nat} {L : List Ob} {nx r u : Int} (h : HpAt w g b rb rc L nx r u) {fa : Nat} {fs : List Int} (hlen : fs.length = 1) (hrow : Row w fa fs) (hth : ∀ i, i < 1 → Th L (fs.getD i 0)) (hu0 : 0 ≤ u) (hu : u + 2 ≤ 32) (hnx : 0 ≤ nx ∧ nx ≤ 1000000) :
    Calls Try.prog 10 #[ptr g, .int .i64 2, .slice (some ⟨fa, 0, none⟩) 1 1] w fun e w' => e = .returned (.tuple #[.int .i64 nx, .int .i64 0]) ∧ ∃ x : Ob, x.k = nx ∧ x.kind = 2 ∧ x.fs = fs ∧ HpAt w' g b rb rc (L ++ [x]) (nx + 2) r (u + 2) ∧ Fr [g, b] w w' := by
  have H := Aside0.mk h
  have HR := Aside0.mk hrow
  have HT := Aside0.mk hth
  have HL := Aside0.mk hlen
  clear h hrow hth hlen
  unfold ptr
  go_enter Try.func10, Try.ntmps10
  go_wp2_with fail
  refine (made_ok H.out).mono ?_
  rintro e w1 ⟨rfl, rfl⟩
  go_wp2_with fail
  refine (fixed2 _).mono ?_
  rintro e w2 ⟨rfl, hb2⟩
  have H2 := Aside0.mk (H.out.fr0 (Fr.ofBelow hb2 []))
  have HR2 := Aside0.mk (HR.out.fr (Fr.ofBelow hb2 []) (by simp))
  have HF2 := Aside0.mk (Fr.ofBelow hb2 [])
  clear H HR hb2
  go_wp2_with fail
  go_loopw [39] (fun v wr => (∃ i : Nat, v = .int .i64 i ∧ Aside0 (i ≤ 1)) ∧ Aside0 (HpAt wr g b rb rc L nx r u) ∧ Aside0 (Row wr fa fs) ∧ Aside0 (Fr [] w1 wr)) (fun v wr => 1 - (intOf v).toNat)
  case atStart => exact ⟨⟨0, rfl, ⟨Nat.zero_le _⟩⟩, H2, HR2, HF2⟩
  case round =>
    clear H2 HR2 HF2
    obtain ⟨⟨i, rfl, hi⟩, H2, HR2, HF2⟩ := hrel
    by_cases hlt : i < 1
    · have hlt' : ((i : Int) < 1) := by omega
      have hltb : decide ((i : Int) < 1) = true := decide_eq_true hlt'
      have hc := HR2.out.cell (i := i) (by rw [HL.out]; exact hlt)
      obtain ⟨x, hx⟩ : ∃ x, x = fs.getD i 0 := ⟨_, rfl⟩
      have HX := Aside0.mk (HT.out i hlt)
      rw [← hx] at HX hc
      clear hx
      go_wp2_with fail
      refine (there_any H2.out HX.out).mono ?_
      rintro e w3 ⟨rfl, rfl⟩
      go_wp2_with fail
      go_roundw
      case rel => exact ⟨⟨i + 1, by go_num, ⟨hlt⟩⟩, H2, HR2, HF2⟩
      case measure => simp [intOf]; omega
    · have hltb : decide ((i : Int) < 1) = false := decide_eq_false (by omega)
      go_wp2_with fail
      rw [show (1 : Nat) = fs.length from HL.out.symm]
      refine (clone_ok (xs := fs) (c := fs.length) (by rw [HL.out]; decide) (by rw [HL.out]; decide) (fun j hj => by
        rw [show (⟨fa, 0, none⟩ : Addr).add j = ⟨fa, j, none⟩ from by unfold Addr.add; split <;> simp_all]
        exact HR2.out.cell hj)).mono ?_
      rintro e w3 ⟨fb, fc, rfl, hrw, hfb, hb3⟩
      rw [HL.out]
      have hf3 : Fr [] w1 w3 := HF2.out.trans (Fr.ofBelow hb3 [])
      have h3 := H2.out.fr0 (Fr.ofBelow hb3 [])
      have hfr : fb ≠ rb := by have := H2.out.rt.lt; omega
      obtain ⟨X, hX⟩ : ∃ X : Ob, X = ⟨0, w3.heap.size, 2, fs, fb, fc⟩ := ⟨_, rfl⟩
      have hob : X.obj = .cells #[.int .i64 2, .slice (some ⟨fb, 0, none⟩) 1 fc, .string ⟨#[]⟩, .bool false, .bool false] 78 (0, 0) := by rw [hX]; unfold Ob.obj; rw [HL.out]
      have H4 := Aside0.mk (h3.fr0 (Fr.alloc [] w3 X.obj))
      have HF4 := Aside0.mk (hf3.trans (Fr.alloc [] w3 X.obj))
      have HO4 := Aside0.mk (heap_alloc_new w3 X.obj)
      have HR4 := Aside0.mk (hrw.fr (Fr.alloc [] w3 X.obj) (by simp))
      have HXX := Aside0.mk hX
      have HFR := Aside0.mk hfr
      rw [hob] at H4 HF4 HO4 HR4
      have HOB := Aside0.mk hob
      clear H2 HR2 HF2 hf3 h3 hfr hob hX hrw hb3 hfb
      go_wp2_with fail
      refine (place_ok H4.out ⟨0, w3.heap.size, 2, fs, fb, fc⟩ (by simp only [Ob.obj, HL.out]; exact HO4.out) HR4.out HFR.out (by simp only [HL.out]; decide) hu0 (by simp only [HL.out]; omega) hnx).mono ?_
      rintro e w4 ⟨rfl, hp4, hf4⟩
      have HP := Aside0.mk hp4
      have HF := Aside0.mk ((HF4.out.mono (T' := [g, b]) (by simp)).trans hf4)
      clear hp4 hf4 H4 HF4 HO4 HR4
      go_wp2_with fail
      go_returns
      have hp := HP.out
      simp only [HL.out] at hp
      exact ⟨rfl, _, rfl, rfl, rfl, (by rw [show (u + 2 : Int) = u + (1 + ((1 : Nat) : Int)) from by omega]; exact hp), HF.out⟩

end Go.Proofs.Ytlghnldlkbgajaa.S
