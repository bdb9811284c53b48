
/- heap: the document's heap: Make. -/
import Derived.Test.YtlghnldlkbgajaaHRfC
import Derived.Test.YtlghnldlkbgajaaHMk3
namespace Go.Proofs.Ytlghnldlkbgajaa.S
open Go.RowKit Go.Proofs.YtlghnldlkbgajaaW.PrintWords Go.Proofs.YtlghnldlkbgajaaW.PrintLast Go.Proofs.YtlghnldlkbgajaaW.PrintMore
set_option linter.unusedVariables false
set_option linter.unusedSimpArgs false
theorem append_some {w w' : World} {R R' : Option Addr} {rc rc' n : Nat} {l m : List Int} (hown : w.ownsRow 0 28 1 (.slice R n rc) n (l.map (Value.int .i64))) {A : Option Addr} {c : Nat}
    (hrun : ∀ ty, (Builtin.append_ #[33, 33] ty #[.slice R n rc, .slice A m.length c]).run Try.prog w = .ok (.slice R' (n + m.length) rc') w') (hown' : w'.ownsRow 0 28 1 (.slice R' (n + m.length) rc') (n + m.length) ((l ++ m).map (Value.int .i64))) (hR : R ≠ none) : R' ≠ none := by
  intro e
  obtain ⟨i0, hi, hz0, hz1, hz2⟩ := info_parts word_info
  rcases hown'.2 with ⟨h1, h2⟩ | ⟨q, cap, cur, h1, -⟩
  · have hm : m = [] := by
      apply List.length_eq_zero_iff.1; omega
    subst hm
    have hr := append_zero (P := Try.prog) 0 33 28 28 i0 1 Try.underlying33 hi _ n _ hown A c
    have h3 : (Builtin.append_ #[33, 33] 28 #[.slice R n rc, .slice A 0 c]).run Try.prog w = .ok (.slice R' (n + 0) rc') w' := hrun 28
    rw [hr] at h3
    have h4 := (Result.ok.inj h3).1
    simp only [Value.slice.injEq] at h4
    exact hR (h4.1.trans e)
  · rw [e] at h1
    simp at h1
def hasF (k : Int) (m : Nat) : Bool := if k = 1 ∨ k = 7 then decide ((m : Int) = 2) else if k = 6 then decide ((m : Int) = 3) else if k = 8 then decide ((m : Int) = 4) else decide (k = 2) && decide ((m : Int) ≤ 1000)
set_option maxRecDepth 100000 in
theorem rhas_calls (k : Int) (m : Nat) (w : World) : Calls Try.prog 67 #[.int .i64 k, .int .i64 m] w fun e w' => e = .returned (.bool (hasF k m)) ∧ w' = w := by
  unfold hasF
  by_cases h1 : k = 1
  · subst h1
    rw [if_pos (.inl rfl)]
    go_enter Try.func67, Try.ntmps67
    go_wp2_with fail
    all_goals (go_returns; exact ⟨by first | (simp; done) | (simp; rfl) | rfl, rfl⟩)
  · by_cases h7 : k = 7
    · subst h7
      rw [if_pos (.inr rfl)]
      go_enter Try.func67, Try.ntmps67
      go_wp2_with fail
      all_goals (go_returns; exact ⟨by first | (simp; done) | (simp; rfl) | rfl, rfl⟩)
    · rw [if_neg (by simp [h1, h7])]
      have e1 : (k == 1) = false := by simpa using h1
      have e7 : (k == 7) = false := by simpa using h7
      by_cases h6 : k = 6
      · subst h6
        go_enter Try.func67, Try.ntmps67
        go_wp2_with fail
        all_goals (go_returns; exact ⟨by first | (simp; done) | (simp; rfl) | rfl, rfl⟩)
      · have e6 : (k == 6) = false := by simpa using h6
        rw [if_neg h6]
        by_cases h8 : k = 8
        · subst h8
          go_enter Try.func67, Try.ntmps67
          go_wp2_with fail
          all_goals (go_returns; exact ⟨by first | (simp; done) | (simp; rfl) | rfl, rfl⟩)
        · have e8 : (k == 8) = false := by simpa using h8
          rw [if_neg h8]
          by_cases h2 : k = 2
          · subst h2
            go_enter Try.func67, Try.ntmps67
            go_wp2_with fail
            all_goals (go_returns; exact ⟨by first | (simp; done) | (simp; rfl) | rfl, rfl⟩)
          · have e2 : (k == 2) = false := by simpa using h2
            go_enter Try.func67, Try.ntmps67
            go_wp2_with fail
            all_goals (go_returns; exact ⟨by simp [h2], rfl⟩)
theorem argB_has (k : Int) (m : Nat) : argB k m = (!textB k && hasF k m) := by
  unfold argB fixedF textB hasF
  by_cases h1 : k = 1
  · subst h1
    by_cases hm : (m : Int) = 2
    · have : m ≤ 1000 := by omega
      simp [hm, this]
    · simp [hm]
  · by_cases h2 : k = 2
    · subst h2
      by_cases hm : m ≤ 1000
      · have : (m : Int) ≤ 1000 := by omega
        simp [hm, this]
      · have : ¬ (m : Int) ≤ 1000 := by omega
        simp [hm, this]
    · by_cases h6 : k = 6
      · subst h6
        by_cases hm : (m : Int) = 3
        · have : m ≤ 1000 := by omega
          simp [hm, this]
        · simp [hm]
      · by_cases h7 : k = 7
        · subst h7
          by_cases hm : (m : Int) = 2
          · have : m ≤ 1000 := by omega
            simp [hm, this]
          · simp [hm]
        · by_cases h8 : k = 8
          · subst h8
            by_cases hm : (m : Int) = 4
            · have : m ≤ 1000 := by omega
              simp [hm, this]
            · simp [hm]
          · simp [h1, h2, h6, h7, h8]
section
variable {w : World} {g rc : Nat} {V : Value} {R : Option Addr} {L : List OW} {h : RS}
theorem moved_rlen (h : RS) (S : List OW) : (h.moved S).roots.length = h.roots.length := by unfold RS.moved; simp
theorem RAll.rlen {L L' : List OW} {h h' : RS} (hA : RAll L h L' h') : h'.roots.length = h.roots.length := by
  obtain ⟨out, -, -, rfl⟩ := hA
  exact moved_rlen _ _
theorem RYoung.rlen {L L' : List OW} {h h' : RS} (hA : RYoung L h L' h') : h'.roots.length = h.roots.length := by
  obtain ⟨out, -, -, rfl⟩ := hA
  exact moved_rlen _ _
theorem RMid.rlen {all : Bool} {L L' : List OW} {h h' : RS} (hm : RMid all L h L' h') : h'.roots.length = h.roots.length := by
  rcases hm with ⟨-, hA⟩ | ⟨-, L1, h1, hY, ⟨-, hA⟩ | ⟨-, rfl, rfl⟩⟩
  · exact hA.rlen
  · rw [hA.rlen, hY.rlen]
  · exact hY.rlen
theorem RCol.rlen {all : Bool} {L L' : List OW} {h h' : RS} {e : Int} (hc : RCol all L h e L' h') : h'.roots.length = h.roots.length := by
  rcases hc with ⟨-, -, rfl, rfl⟩ | ⟨-, h1, hm, ⟨-, -, rfl⟩ | ⟨-, -, rfl⟩⟩
  · rfl
  · exact hm.rlen
  · exact hm.rlen
theorem RRoom.rlen {n : Int} {L L' : List OW} {h h' : RS} {e : Int} (hr : RRoom n L h e L' h') : h'.roots.length = h.roots.length := by
  rcases hr with ⟨-, -, rfl, rfl⟩ | ⟨-, ⟨-, -, rfl, rfl⟩ | ⟨-, hc⟩⟩
  · rfl
  · rfl
  · exact hc.rlen
set_option maxRecDepth 100000 in
theorem rmake_arg {kind : Int} {A : Option Addr} {c m : Nat} (ha : argB kind m = false) (g : Nat) (w : World) : Calls Try.prog 48 #[ptr g, .int .i64 kind, .slice A m c] w fun e w' => e = .returned (.tuple #[.int .i64 0, .int .i64 1]) ∧ w' = w := by
  rw [argB_has] at ha
  have HT := Aside0.mk (rtext_calls kind w)
  have HH := Aside0.mk (rhas_calls kind m w)
  unfold ptr
  cases hb : textB kind with
  | true =>
    rw [hb] at HT
    clear ha HH
    go_enter Try.func48, Try.ntmps48
    go_wp2_with fail
    refine HT.out.mono ?_
    rintro e w1 ⟨rfl, rfl⟩
    go_wp2_with fail
    go_returns
    exact ⟨rfl, rfl⟩
  | false =>
    rw [hb] at HT ha
    have ha' : hasF kind m = false := by simpa using ha
    rw [ha'] at HH
    clear ha
    go_enter Try.func48, Try.ntmps48
    go_wp2_with fail
    refine HT.out.mono ?_
    rintro e w1 ⟨rfl, rfl⟩
    go_wp2_with fail
    refine HH.out.mono ?_
    rintro e w1 ⟨rfl, rfl⟩
    go_wp2_with fail
    go_returns
    exact ⟨rfl, rfl⟩
set_option maxRecDepth 100000 in
set_option maxHeartbeats 2000000 in
theorem rmake_calls (H : HR w g V R rc L h) (hs : SmT L h) {kind : Int} {A : Option Addr} {c : Nat} {fs : List Int} (ha : argB kind fs.length = true) (hrow : RowIn w A fs) (hrl : h.roots.length ≤ 100000) :
    Calls Try.prog 48 #[ptr g, .int .i64 kind, .slice A fs.length c] w fun e w' =>
      (fs.all (thereB L) = false ∧ e = .returned (.tuple #[.int .i64 0, .int .i64 141]) ∧ w' = w) ∨
      (fs.all (thereB L) = true ∧ ∃ err L1 h1, RRoom (1 + (fs.length : Int)) L { h with roots := h.roots ++ fs } err L1 h1 ∧
        ((err ≠ 0 ∧ e = .returned (.tuple #[.int .i64 0, .int .i64 err]) ∧ ∃ V' R' rc', HR w' g V' R' rc' L1 { h1 with roots := h1.roots.take h.roots.length } ∧ StepR g V R L V' R' L1 w w') ∨
         (err = 0 ∧ e = .returned (.tuple #[.int .i64 h1.nx, .int .i64 0]) ∧ ∃ (x : OW) (V' : Value) (R' : Option Addr) (rc' : Nat), x.k = h1.nx ∧ x.o = ⟨kind, h1.roots.drop h.roots.length, ⟨#[]⟩, false, false⟩ ∧ HR w' g V' R' rc' (L1 ++ [x]) { h1 with nx := h1.nx + 2, roots := h1.roots.take h.roots.length } ∧ StepR g V R L V' R' (L1 ++ [x]) w w'))) := by
  have hlen : fs.length ≤ 1000 := by
    unfold argB at ha
    split at ha
    · cases ha
    · simp only [Bool.and_eq_true, decide_eq_true_eq] at ha; exact ha.2
  rw [argB_has] at ha
  simp only [Bool.and_eq_true, Bool.not_eq_true'] at ha
  have HT := Aside0.mk (rtext_calls kind w)
  have HHs := Aside0.mk (rhas_calls kind fs.length w)
  rw [ha.1] at HT
  rw [ha.2] at HHs
  have HH := Aside0.mk H
  have HS := Aside0.mk hs
  have HRW := Aside0.mk hrow
  have HTH := Aside0.mk (fun x => rthere_calls H (by have := hs.sm.len; omega) x)
  unfold ptr
  unfold ptr at HTH
  clear H hs hrow ha
  go_enter Try.func48, Try.ntmps48
  go_wp2_with fail
  refine HT.out.mono ?_
  rintro e w1 ⟨rfl, rfl⟩
  go_wp2_with fail
  refine HHs.out.mono ?_
  rintro e w2 ⟨rfl, rfl⟩
  clear HT HHs
  go_wp2_with fail
  go_loopw [24] (fun v wr => (∃ i : Nat, v = .int .i64 i ∧ Aside0 (i ≤ fs.length ∧ ∀ j, j < i → thereB L (fs.getD j 0) = true)) ∧ wr = w2) (fun v wr => fs.length - (intOf v).toNat)
  case atStart => exact ⟨⟨0, rfl, ⟨Nat.zero_le _, fun j hj => by omega⟩⟩, rfl⟩
  case round =>
    obtain ⟨⟨i, rfl, hi⟩, rfl⟩ := hrel
    have hi1 := hi.out.1
    by_cases hlt : i < fs.length
    · have hlt' : ((i : Int) < (fs.length : Int)) := by omega
      have hltb : decide ((i : Int) < (fs.length : Int)) = true := decide_eq_true hlt'
      obtain ⟨fa, rfl, hrw⟩ := HRW.out (fun e => by rw [e] at hlt; simp at hlt)
      have hc := hrw.cell (i := i) hlt
      obtain ⟨x, hx⟩ : ∃ x, x = fs.getD i 0 := ⟨_, rfl⟩
      rw [← hx] at hc
      have HXE := Aside0.mk hx
      have hth := HTH.out x
      clear hx hrw
      cases hb : thereB L x with
      | true =>
        rw [hb] at hth
        have HTH1 := Aside0.mk hth
        have HBX := Aside0.mk hb
        clear hth hb
        go_wp2_with fail
        refine HTH1.out.mono ?_
        rintro e w3 ⟨rfl, rfl⟩
        go_wp2_with fail
        go_roundw
        case rel => exact ⟨⟨i + 1, by go_num, ⟨hlt, fun j hj => by
          by_cases e : j = i
          · rw [e, ← HXE.out]; exact HBX.out
          · exact hi.out.2 j (by omega)⟩⟩, by first | rfl | trivial⟩
        case measure => simp [intOf]; omega
      | false =>
        rw [hb] at hth
        have HTH1 := Aside0.mk hth
        have HBX := Aside0.mk hb
        clear hth hb
        go_wp2_with fail
        refine HTH1.out.mono ?_
        rintro e w3 ⟨rfl, rfl⟩
        go_wp2_with fail
        go_returns
        refine .inl ⟨?_, rfl, rfl⟩
        rw [List.all_eq_false]
        exact ⟨x, by rw [HXE.out]; simp [List.getD, hlt], by rw [HBX.out]; simp⟩
    · have hltb : decide ((i : Int) < (fs.length : Int)) = false := decide_eq_false (by omega)
      have hil' : ¬ ((i : Int) < (fs.length : Int)) := by omega
      have HALL := Aside0.mk (show fs.all (thereB L) = true by
        rw [List.all_eq_true]
        intro f hf
        obtain ⟨j, hj⟩ := List.mem_iff_getElem?.1 hf
        have hjl : j < fs.length := (List.getElem?_eq_some_iff.1 hj).1
        have := hi.out.2 j (by omega)
        simp only [List.getD] at this
        rw [hj] at this
        exact this)
      clear hi hi1 HTH hlt
      -- the fields behind the roots
      have hbB : Below wr.heap.size wr (wr.alloc (.cells #[] 28)) := (Below.refl _ _).alloc (Nat.le_refl _) _
      have h2 := HH.out.new hbB
      have own0 : (wr.alloc (.cells #[] 28)).ownsRow 0 28 1 (.slice (some ⟨wr.heap.size, 0, none⟩) 0 0) 0 (([] : List Int).map (Value.int .i64)) := World.ownsRow_made wr #[] 0 (Nat.zero_le _) (Nat.zero_le _) rfl
      have hrt := WsAt.src (WsAt.ofOwn h2.q.rt rfl)
      obtain ⟨R1, rc1, w3, hrun1, own1, hfa, hblk1⟩ := append_from own0 (A := R) (c := rc) (m := h.roots) hrt (by omega)
      have hs1 := append_some own0 hrun1 own1 (by simp)
      rw [List.nil_append] at own1
      have hB1 : Below wr.heap.size (wr.alloc (.cells #[] 28)) w3 := hfa.below hbB.size (fun k hk => Nat.le_of_eq (by simpa using hk))
      have hbw3 := hbB.trans hB1
      have h3 := HH.out.new hbw3
      have hfr1 : ∀ k, R1 = some ⟨k, 0, none⟩ → wr.heap.size ≤ k := fun k hk => (hblk1 k hk).elim (fun e => Nat.le_of_eq (by simpa using e)) (fun e => Nat.le_trans hbB.size e)
      simp only [Nat.zero_add] at hrun1 own1
      have hrowA : fs ≠ [] → ∃ ad, A = some ad ∧ ∀ j, j < fs.length → w3.cell? (ad.add j) = some (.int .i64 (fs.getD j 0)) := fun hne => by
        obtain ⟨q, hA, hr⟩ := HRW.out.new hbw3 hne
        exact ⟨_, hA, fun j hj => by
          rw [show (⟨q, 0, none⟩ : Addr).add j = ⟨q, j, none⟩ from by unfold Addr.add; split <;> simp_all]
          exact hr.cell hj⟩
      obtain ⟨R2, rc2, w4, hrun2, own2, hfb, hblk2⟩ := append_from own1 (A := A) (c := c) (m := fs) hrowA (by omega)
      have hs2 := append_some own1 hrun2 own2 hs1
      have hB2 : Below wr.heap.size w3 w4 := hfb.below hbw3.size (fun k hk => hfr1 k hk)
      have hbw4 := hbw3.trans hB2
      have hfr2 : ∀ k, R2 = some ⟨k, 0, none⟩ → wr.heap.size ≤ k := fun k hk => (hblk2 k hk).elim (hfr1 k) (fun e => Nat.le_trans hbw3.size e)
      obtain ⟨hpu, hpf, hpk⟩ := HH.out.q.pushed fs own2 (FrP.new hbw4 _) (fun k hk => .inr (hfr2 k hk))
      have hAft := HH.out.after (h' := { h with roots := h.roots ++ fs }) hpu hpf (by show h.nx ≤ h.nx; omega)
      have hst := StepR.ofQ (V := V) hpf hpk
      have hsR : SmT L { h with roots := h.roots ++ fs } := ⟨⟨HS.out.sm.len, HS.out.sm.nx, HS.out.sm.fine, by show (h.roots ++ fs).length ≤ _; rw [List.length_append]; omega, HS.out.sm.mm⟩, HS.out.nx, HS.out.mm⟩
      have HRM := Aside0.mk (rroom_calls hAft hsR (n := 1 + (fs.length : Int)) (by omega))
      have HST := Aside0.mk (And.intro hst hsR)
      have c3 : (wr.alloc (.cells #[] 28)).cell? ⟨g, 3, none⟩ = some (.slice R h.roots.length rc) := h2.q.c3
      have c30 : wr.cell? ⟨g, 3, none⟩ = some (.slice R h.roots.length rc) := HH.out.q.c3
      have c34 : w4.cell? ⟨g, 3, none⟩ = some (.slice R h.roots.length rc) := (HH.out.new hbw4).q.c3
      have f34 : w4.frozen? ⟨g, 3, none⟩ = false := (HH.out.new hbw4).q.fz 3
      have HS2 := Aside0.mk hs2
      unfold ptr at HRM
      clear hbB h2 own0 hrt own1 hfa hblk1 hs1 hB1 hbw3 h3 hfr1 hrowA own2 hfb hblk2 hs2 hB2 hbw4 hfr2 hpu hpf hpk hAft hst hsR
      go_wp2_with (first | (at_builtin; refine wpList_plain rfl fun K hK => wp_append_words _ _ 33 rfl _ _ _ _ rfl rfl hrun1 (hK _ _ ?_)) | (at_builtin; refine wpList_plain rfl fun K hK => wp_append_words _ _ 33 rfl _ _ _ _ rfl rfl hrun2 (hK _ _ ?_)))
      refine HRM.out.mono ?_
      rintro e w5 ⟨err, L1, h1, V1, rfl, hrr, hr1, st1⟩
      have hl1 : h1.roots.length = h.roots.length + fs.length := by rw [hrr.rlen]; exact List.length_append
      obtain ⟨rb, rfl⟩ : ∃ rb, R2 = some ⟨rb, 0, none⟩ := by
        rcases hr1.q.rt.2 with ⟨e1, -⟩ | ⟨q, cap, cur, e1, -⟩
        · exfalso; rw [Value.slice.injEq] at e1; exact HS2.out e1.1
        · simp only [Value.slice.injEq] at e1
          exact ⟨q, e1.1⟩
      have c5 := hr1.q.c3
      rw [hl1] at c5
      have hbC : Below w5.heap.size w5 (w5.alloc (.cells #[] 28)) := (Below.refl _ _).alloc (Nat.le_refl _) _
      have h6 := hr1.new hbC
      have c6 := h6.q.c3
      rw [hl1] at c6
      obtain ⟨S0, hS0⟩ : ∃ S0 : Option Addr, (if rc2 = h.roots.length then some ⟨rb, 0, none⟩ else some ⟨rb, h.roots.length, none⟩) = S0 := ⟨_, rfl⟩
      obtain ⟨F, hF⟩ : ∃ F, F = h1.roots.drop h.roots.length := ⟨_, rfl⟩
      have hFl : F.length = fs.length := by rw [hF, List.length_drop]; omega
      have hwsA := WsAt.ofOwn h6.q.rt rfl
      have hcapR : h.roots.length + fs.length ≤ rc2 := by rw [← hl1]; exact hwsA.cap
      have own00 : (w5.alloc (.cells #[] 28)).ownsRow 0 28 1 (.slice (some ⟨w5.heap.size, 0, none⟩) 0 0) 0 (([] : List Int).map (Value.int .i64)) := World.ownsRow_made w5 #[] 0 (Nat.zero_le _) (Nat.zero_le _) rfl
      have hsrc : F ≠ [] → ∃ ad, S0 = some ad ∧ ∀ j, j < F.length → (w5.alloc (.cells #[] 28)).cell? (ad.add j) = some (.int .i64 (F.getD j 0)) := fun hne => by
        have hFp : 0 < F.length := List.length_pos_iff.2 hne
        obtain ⟨q, off, cur, e1, e2, e3⟩ := hwsA.cells (fun e => by rw [e] at hl1; simp at hl1; omega)
        simp only [Option.some.injEq, Addr.mk.injEq] at e1
        obtain ⟨rfl, rfl, -⟩ := e1
        rw [if_neg (by omega)] at hS0
        refine ⟨_, hS0.symm, fun j hj => ?_⟩
        rw [show (⟨rb, h.roots.length, none⟩ : Addr).add j = ⟨rb, h.roots.length + j, none⟩ from by unfold Addr.add; split <;> simp_all]
        have := e3 (h.roots.length + j) (by omega)
        rw [Nat.zero_add] at this
        have e4 : F.getD j 0 = h1.roots.getD (h.roots.length + j) 0 := by rw [hF]; simp [List.getD, List.getElem?_drop]
        rw [e4, ← this]
        exact blk_cell e2 _
      obtain ⟨R3, rc3, w6, hrun3, own3, hfc, hblk3⟩ := append_from own00 (A := S0) (c := rc2 - h.roots.length) (m := F) hsrc (by omega)
      have hs3 := append_some own00 hrun3 own3 (by simp)
      rw [List.nil_append] at own3
      simp only [Nat.zero_add] at hrun3 own3
      have hb6 : Below w5.heap.size w5 w6 := hbC.trans (hfc.below hbC.size (fun k hk => Nat.le_of_eq (by simpa using hk)))
      have h7 := hr1.new hb6
      have c7 := h7.q.c3
      have f7 := h7.q.fz 3
      rw [hl1] at c7
      have hpop := h7.q.popped (n := h.roots.length) (by omega)
      have hfp := Fr.set w6 g 3 (.slice (some ⟨rb, 0, none⟩) h.roots.length rc2)
      have hfpq : FrP (FootQ g (some ⟨rb, 0, none⟩) L1) w6 (w6.setCell ⟨g, 3, none⟩ (.slice (some ⟨rb, 0, none⟩) h.roots.length rc2)) := (FrP.ofFr hfp).mono (fun k _ hk => .inl (by simpa using hk))
      have h8 := h7.after (h' := { h1 with roots := h1.roots.take h.roots.length }) hpop hfpq (by show h1.nx ≤ h1.nx; omega)
      have hfr3 : ∀ k, R3 = some ⟨k, 0, none⟩ → w5.heap.size ≤ k := fun k hk => (hblk3 k hk).elim (fun e => Nat.le_of_eq (by simpa using e)) (fun e => Nat.le_trans hbC.size e)
      obtain ⟨fb, hfb⟩ : ∃ fb, R3 = some ⟨fb, 0, none⟩ := by
        rcases own3.2 with ⟨e1, -⟩ | ⟨q, cap, cur, e1, -⟩
        · exfalso; rw [Value.slice.injEq] at e1; exact hs3 e1.1
        · simp only [Value.slice.injEq] at e1
          exact ⟨q, e1.1⟩
      subst hfb
      have hrow3 : F ≠ [] → Row w6 fb F := fun hne => by
        obtain ⟨q, off, cur, e1, e2, e3⟩ := (WsAt.ofOwn own3 rfl).cells hne
        simp only [Option.some.injEq, Addr.mk.injEq] at e1
        obtain ⟨rfl, rfl, -⟩ := e1
        exact ⟨cur, e2, fun i hi => by have := e3 i hi; rw [Nat.zero_add] at this; exact this⟩
      rw [hFl] at hrun3
      have HSTEP := Aside0.mk (show StepR g V R L V1 (some ⟨rb, 0, none⟩) L1 wr (w6.setCell ⟨g, 3, none⟩ (.slice (some ⟨rb, 0, none⟩) h.roots.length rc2)) from
        (HST.out.1.trans st1).trans (((StepR.refl g V1 (some ⟨rb, 0, none⟩) L1 w5).trans ⟨FrP.new hb6 _, fun k hk => .inl hk⟩).trans (StepR.ofQ hfpq (fun k hk => .inl hk))))
      have HRES := Aside0.mk (And.intro hrr h8)
      have HFL := Aside0.mk (And.intro hF (And.intro hFl (And.intro (hfr3 fb rfl) (And.intro hrow3 hb6))))
      have HFT := Aside0.mk (show ∀ k, FootR g V1 (some ⟨rb, 0, none⟩) L1 k → k < w5.heap.size from fun k hk => hr1.foot_lt hk)
      have HSZ := Aside0.mk (show wr.heap.size ≤ w5.heap.size from Nat.le_trans HST.out.1.fr.size st1.fr.size)
      have HSMX := Aside0.mk (hrr.sm HST.out.2)
      clear hbC h6 hwsA own00 hsrc own3 hfc hblk3 hs3 hb6 h7 hpop hfp hfpq h8 hfr3 hrow3 hr1 st1 hrr HRM hF hFl
      by_cases he : err = 0
      · subst he
        go_wp2_with (at_builtin; refine wpList_plain rfl fun K hK => wp_append_words _ _ 33 rfl _ _ _ _ rfl rfl hrun3 (hK _ _ ?_))
        obtain ⟨hrr, h8⟩ := HRES.out
        obtain ⟨hF, hFl, hfb5, hrow3, hb6⟩ := HFL.out
        obtain ⟨w8, hw8⟩ : ∃ w8, w8 = w6.setCell ⟨g, 3, none⟩ (.slice (some ⟨rb, 0, none⟩) h.roots.length rc2) := ⟨_, rfl⟩
        have hsz8 : w8.heap.size = w6.heap.size := by rw [hw8]; simp
        have hF8 : Fr [g] w6 w8 := by rw [hw8]; exact Fr.set w6 g 3 _
        rw [← hw8] at h8 HSTEP ⊢
        have hsx := HSMX.out
        have hw0 : Below w8.heap.size w8 (w8.alloc (.cells #[.int .i64 0, .int .i64 kind, .slice (some ⟨fb, 0, none⟩) fs.length rc3, .string ⟨#[]⟩, .bool false, .bool false] 107)) := (Below.refl _ _).alloc (Nat.le_refl _) _
        have h9 := h8.new hw0
        obtain ⟨X, hX⟩ : ∃ X : OW, X = ⟨0, w8.heap.size, some ⟨fb, 0, none⟩, rc3, fb, ⟨kind, F, ⟨#[]⟩, false, false⟩⟩ := ⟨_, rfl⟩
        have hXo : X.robj = .cells #[.int .i64 0, .int .i64 kind, .slice (some ⟨fb, 0, none⟩) fs.length rc3, .string ⟨#[]⟩, .bool false, .bool false] 107 (0, 0) := by rw [hX]; show Obj.cells #[_, _, .slice _ F.length rc3, _, _, _] 107 (0, 0) = _; rw [hFl]
        have hgF : F ≠ [] → fb ≠ g := fun hne e => by
          obtain ⟨cur, h1, -⟩ := hrow3 hne
          have := HFT.out g (.inl (.inl rfl))
          omega
        have HPU := rput_calls h9 (x := X) (by rw [hX]) (by rw [hXo, hX]; exact heap_alloc_new w8 _) (fun hne => by
            rw [hX] at hne ⊢
            refine ⟨rfl, ?_⟩
            exact ((hrow3 hne).fr hF8 (by simpa using hgF hne)).fr (Fr.alloc [] w8 _) (by simp))
          (fun hk => by have h1 := HFT.out _ hk; rw [hX] at h1; have h2 : w8.heap.size < w5.heap.size := h1; have := hb6.size; omega)
          (fun hne hk => by have h1 := HFT.out _ hk; rw [hX] at h1; have h2 : fb < w5.heap.size := h1; omega) (by have := hsx.len; omega) (by have hq := hsx.nx; show 0 < h1.nx ∧ h1.nx % 2 = 0 ∧ h1.nx ≤ _; omega)
        have hXt : X.t = w6.heap.size := by rw [hX, ← hsz8]
        rw [hXt] at HPU
        unfold ptr at HPU
        refine HPU.mono ?_
        rintro e w9 ⟨rfl, V5, h5, f5, t5⟩
        have H5 := Aside0.mk (And.intro h5 (And.intro f5 t5))
        clear h5 f5 t5 HPU hrr h8 h9 hrow3 hsx
        go_wp2_with fail
        go_returns
        obtain ⟨hrr, -⟩ := HRES.out
        obtain ⟨h5, f5, t5⟩ := H5.out
        have hs5 := HSZ.out
        have hs6 := hb6.size
        refine .inr ⟨HALL.out, 0, L1, h1, hrr, .inr ⟨rfl, rfl, { X with k := h1.nx, t := w6.heap.size }, V5, _, rc2, rfl, by rw [hX, hF], h5, ⟨?_, fun k hk => ?_⟩⟩⟩
        · refine HSTEP.out.fr.then ((FrP.new hw0 _).trans (f5.mono (fun k _ hh => ?_)))
          rcases hh with hh | rfl
          · exact HSTEP.out.ft k hh
          · exact .inr (by omega)
        · rcases t5 k hk with h | h | ⟨h, rfl⟩ | h
          · exact HSTEP.out.ft k h
          · exact .inr (by omega)
          · have : X.fb = fb := by rw [hX]
            exact .inr (by omega)
          · have := hw0.size
            exact .inr (by omega)
      · have heb : (err != 0) = true := by simpa using he
        go_wp2_with (at_builtin; refine wpList_plain rfl fun K hK => wp_append_words _ _ 33 rfl _ _ _ _ rfl rfl hrun3 (hK _ _ ?_))
        go_returns
        obtain ⟨hrr, h8⟩ := HRES.out
        exact .inr ⟨HALL.out, err, L1, h1, hrr, .inl ⟨he, rfl, V1, _, rc2, h8, HSTEP.out⟩⟩
end
end Go.Proofs.Ytlghnldlkbgajaa.S
