
/- heap: Make, Text, Pop and the others, whatever comes in. -/
import Derived.Test.YtlghnldlkbgajaaHMk2
namespace Go.Proofs.Ytlghnldlkbgajaa.S
open Go.RowKit Go.Proofs.YtlghnldlkbgajaaW.PrintWords Go.Proofs.YtlghnldlkbgajaaW.PrintLast Go.Proofs.YtlghnldlkbgajaaW.PrintMore
set_option linter.unusedVariables false
set_option linter.unusedSimpArgs false

section
variable {w : World} {g b B : Nat} {R : Option Addr} {rc : Nat} {L : List OW} {h : HH}
/-- How many fields: no kind, a wrong number, too many. -/
def argB (kind : Int) (m : Nat) : Bool :=
  match fixedF kind with
  | none => false
  | some n => (decide (n < 0) || decide ((m : Int) = n)) && decide (m ≤ 1000)
theorem fixedF_range {k n : Int} (h : fixedF k = some n) : n = -1 ∨ n = 2 ∨ n = 3 ∨ n = 4 := by
  unfold fixedF at h
  repeat' split at h
  all_goals first | (obtain rfl := Option.some.inj h; simp) | cases h
set_option maxRecDepth 100000 in
set_option maxHeartbeats 1000000 in
theorem make_arg (H : HW w g b B R rc L h) {A : Option Addr} {c m : Nat} {kind : Int} (hm : m ≤ 1000000000) (ha : argB kind m = false) :
    Calls Try.prog 10 #[ptr g, .int .i64 kind, .slice A m c] w fun e w' => e = .returned (.tuple #[.int .i64 0, .int .i64 1]) ∧ Below w.heap.size w w' := by
  have HM := Aside0.mk (made_any H)
  clear H
  unfold argB at ha
  unfold ptr
  unfold ptr at HM
  cases hk : fixedF kind with
  | none =>
    have HF := Aside0.mk (fun w => fixed_none hk w)
    clear hk ha
    go_enter Try.func10, Try.ntmps10
    go_wp2_with fail
    refine HM.out.mono ?_
    rintro e w1 ⟨rfl, rfl⟩
    go_wp2_with fail
    refine (HF.out _).mono ?_
    rintro e w2 ⟨rfl, hb2⟩
    have HB := Aside0.mk hb2
    clear hb2
    go_wp2_with fail
    go_returns
    exact ⟨rfl, HB.out⟩
  | some n =>
    rw [hk] at ha
    simp only [Bool.and_eq_false_iff, Bool.or_eq_false_iff, decide_eq_false_iff_not] at ha
    have HF := Aside0.mk (fun w => fixed_some hk w)
    have hrg := fixedF_range hk
    by_cases h0 : 0 ≤ n ∧ (m : Int) ≠ n
    · have a1 : decide (0 ≤ n) = true := decide_eq_true h0.1
      have a2 : ((m : Int) != n) = true := by simpa using h0.2
      have a3 : decide ((m : Int) = n) = false := decide_eq_false h0.2
      have a4 : ((m : Int) == n) = false := by simpa using h0.2
      clear hk ha hrg
      go_enter Try.func10, Try.ntmps10
      go_wp2_with fail
      refine HM.out.mono ?_
      rintro e w1 ⟨rfl, rfl⟩
      go_wp2_with fail
      refine (HF.out _).mono ?_
      rintro e w2 ⟨rfl, hb2⟩
      have HB := Aside0.mk hb2
      clear hb2
      go_wp2_with fail
      go_returns
      exact ⟨rfl, HB.out⟩
    · have h1 : ¬ m ≤ 1000 := by
        rcases ha with h | h
        · exfalso; apply h0; constructor
          · omega
          · exact h.2
        · exact h
      have h1' : decide ((1000 : Int) < (m : Int)) = true := decide_eq_true (by omega)
      by_cases hn : 0 ≤ n
      · have hmn : (m : Int) = n := Classical.byContradiction fun e => h0 ⟨hn, e⟩
        omega
      · have a1 : decide (0 ≤ n) = false := decide_eq_false hn
        clear hk ha hrg h0 hn h1
        go_enter Try.func10, Try.ntmps10
        go_wp2_with fail
        refine HM.out.mono ?_
        rintro e w1 ⟨rfl, rfl⟩
        go_wp2_with fail
        refine (HF.out _).mono ?_
        rintro e w2 ⟨rfl, hb2⟩
        have HB := Aside0.mk hb2
        clear hb2
        go_wp2_with fail
        go_returns
        exact ⟨rfl, HB.out⟩
set_option maxRecDepth 100000 in
set_option maxHeartbeats 2000000 in
theorem make_calls (H : HW w g b 0 R rc L h) (hs : Sm L h) {A : Option Addr} {c : Nat} {fs : List Int} {kind : Int} (ha : argB kind fs.length = true) (hrow : RowIn w A fs)
    (hrl : h.roots.length ≤ 100000) (hh0 : 0 ≤ h.has0 ∧ h.has0 ≤ 1000000000) (hnx : h.nx ≤ 800000000000) :
    Calls Try.prog 10 #[ptr g, .int .i64 kind, .slice A fs.length c] w fun e w' =>
      (fs.all (thereB L) = false ∧ e = .returned (.tuple #[.int .i64 0, .int .i64 141]) ∧ Below w.heap.size w w') ∨
      (fs.all (thereB L) = true ∧ ∃ x : OW, x.o = ⟨kind, fs, ⟨#[]⟩, false, false⟩ ∧ e = .returned (.tuple #[.int .i64 (plO L h x).1, .int .i64 (plO L h x).2.1]) ∧
      ∃ b' R' rc', HW w' g b' 0 R' rc' (plO L h x).2.2.1 (plO L h x).2.2.2 ∧ FrP (Foot g b R L) w w' ∧ ∀ k, Foot g b' R' (plO L h x).2.2.1 k → Foot g b R L k ∨ w.heap.size ≤ k) := by
  unfold argB at ha
  cases hk : fixedF kind with
  | none => rw [hk] at ha; cases ha
  | some n =>
    rw [hk] at ha
    simp only [Bool.and_eq_true, Bool.or_eq_true, decide_eq_true_eq] at ha
    obtain ⟨hn, hlen⟩ := ha
    have HF := Aside0.mk (fun w => fixed_some hk w)
    have HM := Aside0.mk (made_any H)
    have HH0 := Aside0.mk H
    have HR := Aside0.mk hrow
    have HL := Aside0.mk hlen
    have HSm := Aside0.mk hs
    have hl1 : decide ((1000 : Int) < (fs.length : Int)) = false := decide_eq_false (by omega)
    have hlc := hlen
    have HG := Aside0.mk (show (decide (0 ≤ n) = false) ∨ (decide (0 ≤ n) = true ∧ ((fs.length : Int) != n) = false ∧ ((fs.length : Int) == n) = true ∧ decide ((fs.length : Int) = n) = true) by
      by_cases h0 : 0 ≤ n
      · have e : (fs.length : Int) = n := by rcases hn with h | h <;> omega
        exact .inr ⟨decide_eq_true h0, by simp [e], by simp [e], decide_eq_true e⟩
      · exact .inl (decide_eq_false h0))
    clear H hrow hs hk hn hlen
    unfold ptr
    unfold ptr at HM
    go_enter Try.func10, Try.ntmps10
    go_wp2_with fail
    refine HM.out.mono ?_
    rintro e w1 ⟨rfl, rfl⟩
    go_wp2_with fail
    refine (HF.out _).mono ?_
    rintro e w2 ⟨rfl, hb2⟩
    have H2 := Aside0.mk (HH0.out.new hb2)
    have HR2 := Aside0.mk (HR.out.new hb2)
    have HB2 := Aside0.mk hb2
    clear hb2 HF
    rcases HG.out with g1 | ⟨g1, g2, g3, g4⟩
    · go_wp2_with fail
      go_loopw [39] (fun v wr => (∃ i : Nat, v = .int .i64 i ∧ Aside0 (i ≤ fs.length ∧ ∀ j, j < i → thereB L (fs.getD j 0) = true)) ∧ Aside0 (HW wr g b 0 R rc L h) ∧ Aside0 (RowIn wr A fs) ∧ Aside0 (Below w1.heap.size w1 wr)) (fun v wr => fs.length - (intOf v).toNat)
      case atStart => exact ⟨⟨0, rfl, ⟨Nat.zero_le _, fun j hj => by omega⟩⟩, H2, HR2, HB2⟩
      case round =>
        clear H2 HR2 HB2
        obtain ⟨⟨i, rfl, hi⟩, H2, HR2, HB2⟩ := hrel
        have hi1 := hi.out.1
        by_cases hlt : i < fs.length
        · have hlt' : ((i : Int) < (fs.length : Int)) := by omega
          have hltb : decide ((i : Int) < (fs.length : Int)) = true := decide_eq_true hlt'
          obtain ⟨fa, rfl, hrw⟩ := HR2.out (fun e => by rw [e] at hlt; simp at hlt)
          have hc := hrw.cell (i := i) hlt
          obtain ⟨x, hx⟩ : ∃ x, x = fs.getD i 0 := ⟨_, rfl⟩
          rw [← hx] at hc
          have HXE := Aside0.mk hx
          have hth := there_calls H2.out x
          unfold ptr at hth
          clear hx hrw
          cases hb : thereB L x with
          | true =>
            rw [hb] at hth
            have HTH := Aside0.mk hth
            have HBX := Aside0.mk hb
            clear hth hb
            go_wp2_with fail
            refine HTH.out.mono ?_
            rintro e w3 ⟨rfl, rfl⟩
            go_wp2_with fail
            go_roundw
            case rel => exact ⟨⟨i + 1, by go_num, ⟨hlt, fun j hj => by
              by_cases e : j = i
              · rw [e, ← HXE.out]; exact HBX.out
              · exact hi.out.2 j (by omega)⟩⟩, H2, HR2, HB2⟩
            case measure => simp [intOf]; omega
          | false =>
            rw [hb] at hth
            have HTH := Aside0.mk hth
            have HBX := Aside0.mk hb
            clear hth hb
            go_wp2_with fail
            refine HTH.out.mono ?_
            rintro e w3 ⟨rfl, rfl⟩
            go_wp2_with fail
            go_returns
            refine .inl ⟨?_, rfl, HB2.out⟩
            rw [List.all_eq_false]
            exact ⟨x, by rw [HXE.out]; simp [List.getD, hlt], by rw [HBX.out]; simp⟩
        · have hltb : decide ((i : Int) < (fs.length : Int)) = false := decide_eq_false (by omega)
          have hil' : ¬ ((i : Int) < (fs.length : Int)) := by omega
          have HALL := Aside0.mk (show fs.all (thereB L) = true by
            rw [List.all_eq_true]
            intro f hf
            obtain ⟨j, hj⟩ := List.mem_iff_getElem?.1 hf
            have hjl : j < fs.length := (List.getElem?_eq_some_iff.1 hj).1
            have := hi.out.2 j (by omega)
            simp only [List.getD] at this
            rw [hj] at this
            exact this)
          go_wp2_with fail
          refine (clone_any (c := c) (by have := HL.out; omega) HR2.out).mono ?_
          rintro e w3 ⟨A', fb, fc, rfl, hrw, hb3⟩
          have h3 := H2.out.new hb3
          have hbA : Below w1.heap.size w1 w3 := below_step HB2.out hb3
          have hszr : w1.heap.size ≤ wr.heap.size := HB2.out.size
          obtain ⟨X, hX⟩ : ∃ X : OW, X = ⟨0, w3.heap.size, A', fc, fb, ⟨kind, fs, ⟨#[]⟩, false, false⟩⟩ := ⟨_, rfl⟩
          have hob : X.obj = .cells #[.int .i64 kind, .slice A' fs.length fc, .string ⟨#[]⟩, .bool false, .bool false] 78 (0, 0) := by rw [hX]; rfl
          have hbo : Below w3.heap.size w3 (w3.alloc X.obj) := (Below.refl _ _).alloc (Nat.le_refl _) _
          have H4 := Aside0.mk (h3.new hbo)
          have HB4 := Aside0.mk (below_step hbA hbo)
          have HO4 := Aside0.mk (heap_alloc_new w3 X.obj)
          have HR4 := Aside0.mk (show fs ≠ [] → A' = some ⟨fb, 0, none⟩ ∧ Row (w3.alloc X.obj) fb fs from fun hne => ⟨(hrw hne).1, (hrw hne).2.1.fr (Fr.alloc [] w3 X.obj) (by simp)⟩)
          have HFT := Aside0.mk (show ∀ k, Foot g b R L k → k < w1.heap.size from fun k hk => HH0.out.foot_lt hk)
          have HXB := Aside0.mk (And.intro (show fs ≠ [] → w1.heap.size ≤ fb from fun hne => Nat.le_trans hszr (hrw hne).2.2) hbA.size)
          rw [hob] at H4 HB4 HO4 HR4
          clear H2 HR2 HB2 h3 hbA hszr hob hrw hb3 hbo
          go_wp2_with fail
          have hpl := place_calls H4.out HSm.out X (by rw [hX]; exact HO4.out) (by rw [hX]; exact HR4.out) (by rw [hX]; exact fun hk => by have h1 : w3.heap.size < w1.heap.size := HFT.out _ hk; have := HXB.out.2; omega) (by rw [hX]; exact fun hne hk => by have h1 : fb < w1.heap.size := HFT.out _ hk; have := HXB.out.1 hne; omega) (by rw [hX]; show fs.length ≤ _; have := HL.out; omega) (by rw [hX]; show (0 : Nat) ≤ _; omega) hrl hh0 hnx
          rw [show ptr X.t = .pointer (some ⟨w3.heap.size, 0, none⟩) from by rw [hX]; rfl] at hpl
          unfold ptr at hpl
          refine hpl.mono ?_
          rintro e w4 ⟨rfl, b', R', rc', hp4, hf4, hk4⟩
          have HP := Aside0.mk hp4
          have HFr := Aside0.mk (show FrP (Foot g b R L) w1 w4 from (FrP.new HB4.out _).then (hf4.mono (fun k _ hk => by
            have h1 := HXB.out
            rcases hk with hk | hk | ⟨hne, hk⟩
            · exact .inl hk
            · rw [hX] at hk; exact .inr (by show w1.heap.size ≤ k; have hk : k = w3.heap.size := hk; omega)
            · rw [hX] at hk hne; exact .inr (by have hk : k = fb := hk; have := h1.1 hne; omega))))
          have HK := Aside0.mk (show ∀ k, Foot g b' R' (plO L h X).2.2.1 k → Foot g b R L k ∨ w1.heap.size ≤ k from fun k hk => by
            have h1 := HXB.out
            have h2 := HB4.out.size
            rcases hk4 k hk with hk | hk | ⟨hne, hk⟩ | hk
            · exact .inl hk
            · rw [hX] at hk; exact .inr (by have hk : k = w3.heap.size := hk; omega)
            · rw [hX] at hk hne; exact .inr (by have hk : k = fb := hk; have := h1.1 hne; omega)
            · exact .inr (by omega))
          have HXO := Aside0.mk (show X.o = ⟨kind, fs, ⟨#[]⟩, false, false⟩ by rw [hX])
          clear hp4 hf4 hk4 H4 HB4 HO4 HR4 hpl hX
          go_wp2_with fail
          go_returns
          exact .inr ⟨HALL.out, X, HXO.out, rfl, b', R', rc', HP.out, HFr.out, HK.out⟩
    · go_wp2_with fail
      go_loopw [39] (fun v wr => (∃ i : Nat, v = .int .i64 i ∧ Aside0 (i ≤ fs.length ∧ ∀ j, j < i → thereB L (fs.getD j 0) = true)) ∧ Aside0 (HW wr g b 0 R rc L h) ∧ Aside0 (RowIn wr A fs) ∧ Aside0 (Below w1.heap.size w1 wr)) (fun v wr => fs.length - (intOf v).toNat)
      case atStart => exact ⟨⟨0, rfl, ⟨Nat.zero_le _, fun j hj => by omega⟩⟩, H2, HR2, HB2⟩
      case round =>
        clear H2 HR2 HB2
        obtain ⟨⟨i, rfl, hi⟩, H2, HR2, HB2⟩ := hrel
        have hi1 := hi.out.1
        by_cases hlt : i < fs.length
        · have hlt' : ((i : Int) < (fs.length : Int)) := by omega
          have hltb : decide ((i : Int) < (fs.length : Int)) = true := decide_eq_true hlt'
          obtain ⟨fa, rfl, hrw⟩ := HR2.out (fun e => by rw [e] at hlt; simp at hlt)
          have hc := hrw.cell (i := i) hlt
          obtain ⟨x, hx⟩ : ∃ x, x = fs.getD i 0 := ⟨_, rfl⟩
          rw [← hx] at hc
          have HXE := Aside0.mk hx
          have hth := there_calls H2.out x
          unfold ptr at hth
          clear hx hrw
          cases hb : thereB L x with
          | true =>
            rw [hb] at hth
            have HTH := Aside0.mk hth
            have HBX := Aside0.mk hb
            clear hth hb
            go_wp2_with fail
            refine HTH.out.mono ?_
            rintro e w3 ⟨rfl, rfl⟩
            go_wp2_with fail
            go_roundw
            case rel => exact ⟨⟨i + 1, by go_num, ⟨hlt, fun j hj => by
              by_cases e : j = i
              · rw [e, ← HXE.out]; exact HBX.out
              · exact hi.out.2 j (by omega)⟩⟩, H2, HR2, HB2⟩
            case measure => simp [intOf]; omega
          | false =>
            rw [hb] at hth
            have HTH := Aside0.mk hth
            have HBX := Aside0.mk hb
            clear hth hb
            go_wp2_with fail
            refine HTH.out.mono ?_
            rintro e w3 ⟨rfl, rfl⟩
            go_wp2_with fail
            go_returns
            refine .inl ⟨?_, rfl, HB2.out⟩
            rw [List.all_eq_false]
            exact ⟨x, by rw [HXE.out]; simp [List.getD, hlt], by rw [HBX.out]; simp⟩
        · have hltb : decide ((i : Int) < (fs.length : Int)) = false := decide_eq_false (by omega)
          have hil' : ¬ ((i : Int) < (fs.length : Int)) := by omega
          have HALL := Aside0.mk (show fs.all (thereB L) = true by
            rw [List.all_eq_true]
            intro f hf
            obtain ⟨j, hj⟩ := List.mem_iff_getElem?.1 hf
            have hjl : j < fs.length := (List.getElem?_eq_some_iff.1 hj).1
            have := hi.out.2 j (by omega)
            simp only [List.getD] at this
            rw [hj] at this
            exact this)
          go_wp2_with fail
          refine (clone_any (c := c) (by have := HL.out; omega) HR2.out).mono ?_
          rintro e w3 ⟨A', fb, fc, rfl, hrw, hb3⟩
          have h3 := H2.out.new hb3
          have hbA : Below w1.heap.size w1 w3 := below_step HB2.out hb3
          have hszr : w1.heap.size ≤ wr.heap.size := HB2.out.size
          obtain ⟨X, hX⟩ : ∃ X : OW, X = ⟨0, w3.heap.size, A', fc, fb, ⟨kind, fs, ⟨#[]⟩, false, false⟩⟩ := ⟨_, rfl⟩
          have hob : X.obj = .cells #[.int .i64 kind, .slice A' fs.length fc, .string ⟨#[]⟩, .bool false, .bool false] 78 (0, 0) := by rw [hX]; rfl
          have hbo : Below w3.heap.size w3 (w3.alloc X.obj) := (Below.refl _ _).alloc (Nat.le_refl _) _
          have H4 := Aside0.mk (h3.new hbo)
          have HB4 := Aside0.mk (below_step hbA hbo)
          have HO4 := Aside0.mk (heap_alloc_new w3 X.obj)
          have HR4 := Aside0.mk (show fs ≠ [] → A' = some ⟨fb, 0, none⟩ ∧ Row (w3.alloc X.obj) fb fs from fun hne => ⟨(hrw hne).1, (hrw hne).2.1.fr (Fr.alloc [] w3 X.obj) (by simp)⟩)
          have HFT := Aside0.mk (show ∀ k, Foot g b R L k → k < w1.heap.size from fun k hk => HH0.out.foot_lt hk)
          have HXB := Aside0.mk (And.intro (show fs ≠ [] → w1.heap.size ≤ fb from fun hne => Nat.le_trans hszr (hrw hne).2.2) hbA.size)
          rw [hob] at H4 HB4 HO4 HR4
          clear H2 HR2 HB2 h3 hbA hszr hob hrw hb3 hbo
          go_wp2_with fail
          have hpl := place_calls H4.out HSm.out X (by rw [hX]; exact HO4.out) (by rw [hX]; exact HR4.out) (by rw [hX]; exact fun hk => by have h1 : w3.heap.size < w1.heap.size := HFT.out _ hk; have := HXB.out.2; omega) (by rw [hX]; exact fun hne hk => by have h1 : fb < w1.heap.size := HFT.out _ hk; have := HXB.out.1 hne; omega) (by rw [hX]; show fs.length ≤ _; have := HL.out; omega) (by rw [hX]; show (0 : Nat) ≤ _; omega) hrl hh0 hnx
          rw [show ptr X.t = .pointer (some ⟨w3.heap.size, 0, none⟩) from by rw [hX]; rfl] at hpl
          unfold ptr at hpl
          refine hpl.mono ?_
          rintro e w4 ⟨rfl, b', R', rc', hp4, hf4, hk4⟩
          have HP := Aside0.mk hp4
          have HFr := Aside0.mk (show FrP (Foot g b R L) w1 w4 from (FrP.new HB4.out _).then (hf4.mono (fun k _ hk => by
            have h1 := HXB.out
            rcases hk with hk | hk | ⟨hne, hk⟩
            · exact .inl hk
            · rw [hX] at hk; exact .inr (by show w1.heap.size ≤ k; have hk : k = w3.heap.size := hk; omega)
            · rw [hX] at hk hne; exact .inr (by have hk : k = fb := hk; have := h1.1 hne; omega))))
          have HK := Aside0.mk (show ∀ k, Foot g b' R' (plO L h X).2.2.1 k → Foot g b R L k ∨ w1.heap.size ≤ k from fun k hk => by
            have h1 := HXB.out
            have h2 := HB4.out.size
            rcases hk4 k hk with hk | hk | ⟨hne, hk⟩ | hk
            · exact .inl hk
            · rw [hX] at hk; exact .inr (by have hk : k = w3.heap.size := hk; omega)
            · rw [hX] at hk hne; exact .inr (by have hk : k = fb := hk; have := h1.1 hne; omega)
            · exact .inr (by omega))
          have HXO := Aside0.mk (show X.o = ⟨kind, fs, ⟨#[]⟩, false, false⟩ by rw [hX])
          clear hp4 hf4 hk4 H4 HB4 HO4 HR4 hpl hX
          go_wp2_with fail
          go_returns
          exact .inr ⟨HALL.out, X, HXO.out, rfl, b', R', rc', HP.out, HFr.out, HK.out⟩
set_option maxRecDepth 100000 in
set_option maxHeartbeats 1000000 in
theorem text_arg (H : HW w g b B R rc L h) {kind : Int} {s : ByteArray} (ha : ((decide (3 ≤ kind) && decide (kind ≤ 5)) && decide (s.size ≤ 4000)) = false) :
    Calls Try.prog 27 #[ptr g, .int .i64 kind, .string s] w fun e w' => e = .returned (.tuple #[.int .i64 0, .int .i64 1]) ∧ w' = w := by
  have HM := Aside0.mk (made_any H)
  clear H
  unfold ptr
  unfold ptr at HM
  have htx := fun w => textual_calls kind w
  cases hk : (decide (3 ≤ kind) && decide (kind ≤ 5)) with
  | false =>
    rw [hk] at htx
    have HT := Aside0.mk htx
    clear htx hk ha
    go_enter Try.func27, Try.ntmps27
    go_wp2_with fail
    refine HM.out.mono ?_
    rintro e w1 ⟨rfl, rfl⟩
    go_wp2_with fail
    refine (HT.out _).mono ?_
    rintro e w1 ⟨rfl, rfl⟩
    go_wp2_with fail
    go_returns
    exact ⟨rfl, rfl⟩
  | true =>
    rw [hk] at htx ha
    have hs : ¬ s.size ≤ 4000 := by simpa using ha
    have HT := Aside0.mk htx
    have hb : decide ((4000 : Int) < (s.size : Int)) = true := decide_eq_true (by omega)
    clear htx hk ha hs
    go_enter Try.func27, Try.ntmps27
    go_wp2_with fail
    refine HM.out.mono ?_
    rintro e w1 ⟨rfl, rfl⟩
    go_wp2_with fail
    refine (HT.out _).mono ?_
    rintro e w1 ⟨rfl, rfl⟩
    go_wp2_with fail
    go_returns
    exact ⟨rfl, rfl⟩
set_option maxRecDepth 100000 in
set_option maxHeartbeats 1000000 in
theorem text_calls (H : HW w g b 0 R rc L h) (hs : Sm L h) {kind : Int} {s : ByteArray} (hk : (decide (3 ≤ kind) && decide (kind ≤ 5)) = true) (hsz : s.size ≤ 4000) (hrl : h.roots.length ≤ 100000) (hh0 : 0 ≤ h.has0 ∧ h.has0 ≤ 1000000000) (hnx : h.nx ≤ 800000000000) :
    Calls Try.prog 27 #[ptr g, .int .i64 kind, .string s] w fun e w' => ∃ x : OW, x.o = ⟨kind, [], s, false, false⟩ ∧ e = .returned (.tuple #[.int .i64 (plO L h x).1, .int .i64 (plO L h x).2.1]) ∧
      ∃ b' R' rc', HW w' g b' 0 R' rc' (plO L h x).2.2.1 (plO L h x).2.2.2 ∧ FrP (Foot g b R L) w w' ∧ ∀ k, Foot g b' R' (plO L h x).2.2.1 k → Foot g b R L k ∨ w.heap.size ≤ k := by
  have HM := Aside0.mk (made_any H)
  have HH0 := Aside0.mk H
  have HSm := Aside0.mk hs
  have htx := fun w => textual_calls kind w
  rw [hk] at htx
  have HT := Aside0.mk htx
  have hb : decide ((4000 : Int) < (s.size : Int)) = false := decide_eq_false (by omega)
  obtain ⟨X, hX⟩ : ∃ X : OW, X = ⟨0, w.heap.size, none, 0, 0, ⟨kind, [], s, false, false⟩⟩ := ⟨_, rfl⟩
  have hob : X.obj = .cells #[.int .i64 kind, .slice none 0 0, .string s, .bool false, .bool false] 78 (0, 0) := by rw [hX]; rfl
  have hbo : Below w.heap.size w (w.alloc X.obj) := (Below.refl _ _).alloc (Nat.le_refl _) _
  have hpl := place_calls (H.new hbo) hs X (by have := heap_alloc_new w X.obj; rw [hX] at this ⊢; exact this) (by rw [hX]; exact fun hne => absurd rfl hne) (by rw [hX]; exact fun hk => by have h1 : w.heap.size < w.heap.size := H.foot_lt hk; omega) (by rw [hX]; exact fun hne => absurd rfl hne) (by rw [hX]; show (0 : Nat) ≤ _; omega) (by rw [hX]; show s.size ≤ _; omega) hrl hh0 hnx
  rw [show ptr X.t = .pointer (some ⟨w.heap.size, 0, none⟩) from by rw [hX]; rfl, hob] at hpl
  unfold ptr at hpl
  have HPL := Aside0.mk hpl
  rw [hob] at hbo
  have HB := Aside0.mk hbo
  have HXO := Aside0.mk hX
  unfold ptr
  unfold ptr at HM
  clear H hs htx hk hpl hbo hob hX
  go_enter Try.func27, Try.ntmps27
  go_wp2_with fail
  refine HM.out.mono ?_
  rintro e w1 ⟨rfl, rfl⟩
  go_wp2_with fail
  refine (HT.out _).mono ?_
  rintro e w1 ⟨rfl, rfl⟩
  go_wp2_with fail
  refine HPL.out.mono ?_
  rintro e w4 ⟨rfl, b', R', rc', hp4, hf4, hk4⟩
  have HP := Aside0.mk hp4
  have HFr := Aside0.mk (show FrP (Foot g b R L) w1 w4 from (FrP.new HB.out _).then (hf4.mono (fun k _ hk => by
    rcases hk with hk | hk | ⟨hne, hk⟩
    · exact .inl hk
    · rw [HXO.out] at hk; exact .inr (by have hk : k = w1.heap.size := hk; omega)
    · rw [HXO.out] at hne; exact absurd rfl hne)))
  have HK := Aside0.mk (show ∀ k, Foot g b' R' (plO L h X).2.2.1 k → Foot g b R L k ∨ w1.heap.size ≤ k from fun k hk => by
    rcases hk4 k hk with hk | hk | ⟨hne, hk⟩ | hk
    · exact .inl hk
    · rw [HXO.out] at hk; exact .inr (by have hk : k = w1.heap.size := hk; omega)
    · rw [HXO.out] at hne; exact absurd rfl hne
    · exact .inr (Nat.le_trans HB.out.size hk))
  clear hp4 hf4 hk4
  go_wp2_with fail
  go_returns
  exact ⟨X, by rw [HXO.out], rfl, b', R', rc', HP.out, HFr.out, HK.out⟩
end
end Go.Proofs.Ytlghnldlkbgajaa.S
