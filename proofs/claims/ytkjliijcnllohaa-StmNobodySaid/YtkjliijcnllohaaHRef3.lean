/- The reference's New. -/
import Derived.Test.YtkjliijcnllohaaHRef2
namespace Go.Proofs.Ytkjliijcnllohaa.S
open Go.RowKit Go.Proofs.YtkjliijcnllohaaW.PrintWords Go.Proofs.YtkjliijcnllohaaW.PrintLast Go.Proofs.YtkjliijcnllohaaW.PrintMore
set_option linter.unusedVariables false
set_option linter.unusedSimpArgs false

theorem RSt.below {w w' : World} {B rs : Nat} {R : List RS} (h : RSt w B rs R) (hb : Below w.heap.size w w') : RSt w' B rs R := by
  obtain ⟨v, hv, ho⟩ := h.sp
  refine ⟨⟨v, blk_below hv hb, ho.1, ?_⟩, fun x hx => blk_below (h.slot x hx) hb, h.apart, h.up⟩
  rcases ho.2 with h0 | ⟨g, cap, cur, h1, h2, h3, h4⟩
  · exact .inl h0
  · exact .inr ⟨g, cap, cur, h1, h2, blk_below h3 hb, h4⟩
theorem find_named {w : World} {B rs : Nat} {R : List RS} (h : RSt w B rs R) {x : RS} (hx : x ∈ R) (hu : R.Pairwise fun a b => a.name ≠ b.name) {name : ByteArray} (hn : x.name = name) : Calls Try.prog 40 #[ptr rs, .string name] w fun e w' => e = .returned (ptr x.g) ∧ w' = w := by
  subst hn
  exact find_there h hx hu
theorem RSt.fill {w : World} {B rs g : Nat} {R : List RS} {nm : ByteArray} (h : RSt w B rs (R ++ [⟨nm, g, false, .slice none 0 0⟩])) (v : Value) :
    RSt ((w.setCell ⟨g, 2, none⟩ v).setCell ⟨g, 4, none⟩ (.bool true)) B rs (R ++ [⟨nm, g, true, v⟩]) ∧ Below B w ((w.setCell ⟨g, 2, none⟩ v).setCell ⟨g, 4, none⟩ (.bool true)) := by
  have hg : w.heap[g]? = some (.cells #[.string nm, .int .i64 0, .slice none 0 0, .pointer none, .bool false] 94 (0, 0)) := h.slot ⟨nm, g, false, .slice none 0 0⟩ (by simp)
  have hgB : B ≤ g := h.up.2 ⟨nm, g, false, .slice none 0 0⟩ (by simp)
  have h1 := blk_set (blk_set hg 2 v) 4 (.bool true)
  have hne : ∀ k, k ≠ g → ((w.setCell ⟨g, 2, none⟩ v).setCell ⟨g, 4, none⟩ (.bool true)).heap[k]? = w.heap[k]? := fun k hk => (Below.heap_setCell _ _ _ _ hk).trans (Below.heap_setCell _ _ _ _ hk)
  obtain ⟨u, hu, ho⟩ := h.sp
  refine ⟨⟨⟨u, ?_, ?_⟩, fun x hx => ?_, ?_, h.up.1, fun x hx => ?_⟩, ((Below.refl B w).setCell (p := ⟨g, 2, none⟩) hgB _).setCell (p := ⟨g, 4, none⟩) hgB _⟩
  · rw [hne rs (fun e => blk_ne hu hg (by decide) e)]; exact hu
  · refine ⟨by simp, ?_⟩
    have e : (R ++ [(⟨nm, g, true, v⟩ : RS)]).map (fun x => ptr x.g) = (R ++ [(⟨nm, g, false, .slice none 0 0⟩ : RS)]).map (fun x => ptr x.g) := by simp
    have e2 : (R ++ [(⟨nm, g, true, v⟩ : RS)]).length = (R ++ [(⟨nm, g, false, .slice none 0 0⟩ : RS)]).length := by simp
    rw [e, e2]
    rcases ho.2 with h0 | ⟨gr, cap, cur, q1, q2, q3, q4⟩
    · exact .inl h0
    · exact .inr ⟨gr, cap, cur, q1, q2, by rw [hne gr (fun e => blk_ne q3 hg (by decide) e)]; exact q3, q4⟩
  · rcases List.mem_append.1 hx with hx | hx
    · have hxg : x.g ≠ g := by
        have := h.apart
        rw [List.pairwise_append] at this
        exact this.2.2 x hx ⟨nm, g, false, .slice none 0 0⟩ (by simp)
      rw [hne _ hxg]; exact h.slot x (List.mem_append_left _ hx)
    · obtain rfl := List.mem_singleton.1 hx
      exact h1
  · have := h.apart
    rw [List.pairwise_append] at this ⊢
    refine ⟨this.1, by simp, fun x hx y hy => ?_⟩
    obtain rfl := List.mem_singleton.1 hy
    exact this.2.2 x hx ⟨nm, g, false, .slice none 0 0⟩ (by simp)
  · rcases List.mem_append.1 hx with hx | hx
    · exact h.up.2 x (List.mem_append_left _ hx)
    · obtain rfl := List.mem_singleton.1 hx
      exact hgB
/-- Where the second loop stands. -/
structure RNew (w wr : World) (i : Nat) (L : List SA) (R : List RS) : Prop where
  st : RSt wr w.heap.size w.heap.size R
  names : R.map (·.name) = (L.take i).map (·.name)
  had : ∀ x ∈ R, x.had = true
  bel : Below w.heap.size w wr
  apart : (L.take i).Pairwise fun x y => x.name ≠ y.name
def RPost (w : World) (L : List SA) (e : Ending) (w' : World) : Prop := Below w.heap.size w w' ∧
  (((L.all fun x => fitB x.name) = false ∧ e = .returned (.tuple #[.pointer none, .int .i64 6])) ∨
   ((L.all fun x => fitB x.name) = true ∧ ¬ (L.Pairwise fun x y => x.name ≠ y.name) ∧ e = .returned (.tuple #[.pointer none, .int .i64 1])) ∨
   ((L.all fun x => fitB x.name) = true ∧ (L.Pairwise fun x y => x.name ≠ y.name) ∧ ∃ rs, e = .returned (.tuple #[ptr rs, .int .i64 0])))
theorem rst_pair {w : World} {B rs i : Nat} {L : List SA} {R : List RS} (hn : R.map (·.name) = (L.take i).map (·.name)) (ha : (L.take i).Pairwise fun x y => x.name ≠ y.name) : R.Pairwise fun a b => a.name ≠ b.name := by
  have h1 : (R.map (·.name)).Pairwise fun a b => a ≠ b := by rw [hn, List.pairwise_map]; exact ha
  rw [List.pairwise_map] at h1
  exact h1

set_option maxRecDepth 100000 in
set_option maxHeartbeats 4000000 in
theorem refNew_calls {L : List SA} {A : Option Addr} {c : Nat} {w : World} (h : SlotsIn w A L) (hlen : L.length < 10000000000000) : Calls Try.prog 17 #[.slice A L.length c] w (RPost w L) := by
  have hu28 := Try.underlying28
  have H := Aside0.mk h.2
  clear h
  go_enter Try.func17, Try.ntmps17
  go_wp2_with fail
  go_loopw [15] (fun v15 wr => ∃ i : Nat, v15 = .int .i64 i ∧ Aside0 (i ≤ L.length) ∧ Aside0 ((L.take i).all (fun x => fitB x.name) = true) ∧ Aside0 (Below w.heap.size w wr ∧ wr.heap[w.heap.size]? = some (.cells #[.slice none 0 0, .int .i64 0] 89 (0, 0)))) (fun v15 wr => L.length - (intOf v15).toNat)
  case atStart => exact ⟨0, rfl, ⟨Nat.zero_le _⟩, ⟨rfl⟩, ⟨below_alloc (Below.refl _ _) _, blk_new w _⟩⟩
  case round =>
    obtain ⟨i, rfl, hi, hall, hst⟩ := hrel
    by_cases hlt : i < L.length
    · have hlt' : ((i : Int) < (L.length : Int)) := by omega
      have hltb : decide ((i : Int) < (L.length : Int)) = true := decide_eq_true hlt'
      obtain ⟨ad, hA, x0, x1, x2, hrd⟩ := H.out i hlt
      cases hA
      replace x0 := (hst.out.1.cell (World.block_lt_of_cell? w _ x0)).trans x0
      replace x1 := (hst.out.1.cell (World.block_lt_of_cell? w _ x1)).trans x1
      replace x2 := (hst.out.1.cell (World.block_lt_of_cell? w _ x2)).trans x2
      obtain ⟨A8, n8, c8, hvv⟩ := hrd.form
      rw [hvv] at x2
      have HEL : Aside0 (L.take (i + 1) = L.take i ++ [L[i]'hlt]) := ⟨List.take_succ_eq_append_getElem hlt⟩
      clear hrd hvv
      go_wp2_with fail
      refine (isName_calls _ _).mono ?_
      rintro e w1 ⟨rfl, ⟨nd, rfl⟩⟩
      clear x0 x1 x2
      cases hf : fitB (L[i]'hlt).name with
      | true =>
        have hq : Aside0 ((L.take (i + 1)).all (fun x => fitB x.name) = true) := ⟨by rw [HEL.out, List.all_append, hall.out]; simp [hf]⟩
        have hs2 : Aside0 (Below w.heap.size w ((wr.alloc (.cells #[.string (L[i]'hlt).name, .int .i64 (L[i]'hlt).ver, .slice A8 n8 c8] 28)).drewN nd) ∧ ((wr.alloc (.cells #[.string (L[i]'hlt).name, .int .i64 (L[i]'hlt).ver, .slice A8 n8 c8] 28)).drewN nd).heap[w.heap.size]? = some (.cells #[.slice none 0 0, .int .i64 0] 89 (0, 0))) := ⟨pw_below_drewN (below_alloc hst.out.1 _) _, blk_alloc hst.out.2 _⟩
        clear hf
        go_wp2_with fail
        go_roundw
        case rel => exact ⟨i + 1, by go_num, ⟨hlt⟩, hq, hs2⟩
        case measure => simp [intOf]; omega
      | false =>
        have hq : Aside0 (L.all (fun x => fitB x.name) = false) := ⟨by
          rw [List.all_eq_false]; exact ⟨L[i]'hlt, List.getElem_mem hlt, by rw [hf]; simp⟩⟩
        clear hf
        go_wp2_with fail
        go_returns
        exact ⟨pw_below_drewN (below_alloc hst.out.1 _) _, .inl ⟨hq.out, rfl⟩⟩
    · have hltb : decide ((i : Int) < (L.length : Int)) = false := decide_eq_false (by omega)
      have HALL : Aside0 (L.all (fun x => fitB x.name) = true) := ⟨by have := hall.out; rw [List.take_of_length_le (by omega)] at this; exact this⟩
      have HR0 : Aside0 (RNew w wr 0 L []) := ⟨⟨⟨⟨_, hst.out.2, rfl, .inl ⟨rfl, rfl⟩⟩, by simp, by simp, Nat.le_refl _, by simp⟩, rfl, by simp, hst.out.1, by simp⟩⟩
      clear hall hst
      go_wp2_with fail
      go_loopw [26] (fun v26 wr => ∃ i : Nat, v26 = .int .i64 i ∧ Aside0 (i ≤ L.length) ∧ ∃ R, Aside0 (RNew w wr i L R)) (fun v26 wr => L.length - (intOf v26).toNat)
      case atStart => exact ⟨0, rfl, ⟨Nat.zero_le _⟩, [], HR0⟩
      case round =>
        clear HR0
        obtain ⟨i, rfl, hi, R, hr⟩ := hrel
        by_cases hlt : i < L.length
        · have hlt' : ((i : Int) < (L.length : Int)) := by omega
          have hltb : decide ((i : Int) < (L.length : Int)) = true := decide_eq_true hlt'
          obtain ⟨ad, hA, x0, x1, x2, hrd⟩ := H.out i hlt
          cases hA
          have HRD := Aside0.mk hrd
          replace x0 := (hr.out.bel.cell (World.block_lt_of_cell? w _ x0)).trans x0
          replace x1 := (hr.out.bel.cell (World.block_lt_of_cell? w _ x1)).trans x1
          replace x2 := (hr.out.bel.cell (World.block_lt_of_cell? w _ x2)).trans x2
          obtain ⟨A8, n8, c8, hvv⟩ := hrd.form
          rw [hvv] at x2
          have HVV := Aside0.mk hvv
          have HEL : Aside0 (L.take (i + 1) = L.take i ++ [L[i]'hlt]) := ⟨List.take_succ_eq_append_getElem hlt⟩
          clear hrd hvv
          have hbx := blk_new wr (.cells #[.string (L[i]'hlt).name, .int .i64 (L[i]'hlt).ver, .slice A8 n8 c8] 28)
          have HBX := Aside0.mk hbx
          have HR := Aside0.mk hr.out
          have HST := Aside0.mk (hr.out.st.below (below_alloc (Below.refl wr.heap.size wr) (.cells #[.string (L[i]'hlt).name, .int .i64 (L[i]'hlt).ver, .slice A8 n8 c8] 28)))
          have HPW := Aside0.mk (rst_pair (w := w) (B := 0) (rs := 0) hr.out.names hr.out.apart)
          have HLR : Aside0 (R.length ≤ L.length) := ⟨by
            have := congrArg List.length hr.out.names
            simp only [List.length_map, List.length_take] at this
            omega⟩
          clear hr hbx
          by_cases hhas : ∃ x ∈ R, x.name = (L[i]'hlt).name
          · obtain ⟨x, hx, hxn⟩ := hhas
            have HX := Aside0.mk (And.intro hx hxn)
            clear hx hxn
            go_wp2_with fail
            clear x0 x1 x2
            refine (find_named HST.out HX.out.1 HPW.out HX.out.2).mono ?_
            rintro e w2 ⟨rfl, rfl⟩
            have h4 : (wr.alloc (.cells #[.string (L[i]'hlt).name, .int .i64 (L[i]'hlt).ver, .slice A8 n8 c8] 28)).cell? ⟨x.g, 4, none⟩ = some (.bool true) := by
              have := (blk_cell (HST.out.slot x HX.out.1) 4)
              rw [show x.had = true from HR.out.had x HX.out.1] at this
              exact this.trans rfl
            unfold ptr
            go_wp2_with fail
            go_returns
            refine ⟨below_alloc HR.out.bel _, .inr (.inl ⟨HALL.out, fun hp => ?_, rfl⟩)⟩
            have hxm : x.name ∈ (L.take i).map (·.name) := by rw [← HR.out.names]; exact List.mem_map.2 ⟨x, HX.out.1, rfl⟩
            obtain ⟨y, hy, hyn⟩ := List.mem_map.1 hxm
            have h3 := List.take_append_drop i L
            rw [← h3, List.pairwise_append] at hp
            exact hp.2.2 y hy (L[i]'hlt) (by rw [List.drop_eq_getElem_cons hlt]; exact List.mem_cons_self ..) (by rw [hyn, HX.out.2])
          · have HNO := Aside0.mk (show ∀ x ∈ R, x.name ≠ (L[i]'hlt).name from fun x hx e => hhas ⟨x, hx, e⟩)
            clear hhas
            go_wp2_with fail
            clear x0 x1 x2
            refine (find_new HST.out (by have := HR.out.bel.size; simp; omega) (by have := HLR.out; omega) _ HNO.out).mono ?_
            rintro e w2 ⟨g, rfl, hg, hst2, hb2, hk2⟩
            have hbx2 := hk2 _ _ HBX.out
            have hnew := hst2.slot ⟨(L[i]'hlt).name, g, false, .slice none 0 0⟩ (by simp)
            have h4 : w2.cell? ⟨g, 4, none⟩ = some (.bool false) := (blk_cell hnew 4).trans rfl
            have h0 : w2.cell? ⟨wr.heap.size, 0, none⟩ = some (.string (L[i]'hlt).name) := (blk_cell hbx2 0).trans rfl
            have h2 : w2.cell? ⟨wr.heap.size, 2, none⟩ = some (.slice A8 n8 c8) := (blk_cell hbx2 2).trans rfl
            have HST2 := Aside0.mk hst2
            have HB2 := Aside0.mk (And.intro hb2 (And.intro hbx2 hnew))
            have HPW2 : Aside0 ((R ++ [(⟨(L[i]'hlt).name, g, false, .slice none 0 0⟩ : RS)]).Pairwise fun a b => a.name ≠ b.name) := ⟨by
              rw [List.pairwise_append]
              refine ⟨HPW.out, by simp, fun x hx y hy => ?_⟩
              obtain rfl := List.mem_singleton.1 hy
              exact HNO.out x hx⟩
            clear hst2 hb2 hk2 hbx2 hnew hg
            unfold ptr
            go_wp2_with fail
            refine (find_there HST2.out (x := ⟨(L[i]'hlt).name, g, false, .slice none 0 0⟩) (by simp) HPW2.out).mono ?_
            rintro e w3 ⟨rfl, rfl⟩
            unfold ptr
            go_wp2_with fail
            have hbel3 : Below w.heap.size w w3 := (below_alloc HR.out.bel _).trans HB2.out.1
            have hrd3 := HRD.out.below hbel3 (Nat.le_refl _)
            rw [HVV.out] at hrd3
            refine (copied_calls hrd3).mono ?_
            rintro e w4 ⟨A9, n9, c9, rfl, hb4⟩
            have hst4 := HST2.out.below hb4
            have hnew4 := blk_below HB2.out.2.2 hb4
            have HB4 := Aside0.mk (hbel3.trans (hb4.mono hbel3.size))
            have e2 : w4.cell? ⟨g, 2, none⟩ = some (.slice none 0 0) := (blk_cell hnew4 2).trans rfl
            have e4 : w4.cell? ⟨g, 4, none⟩ = some (.bool false) := (blk_cell hnew4 4).trans rfl
            have f2 : w4.frozen? ⟨g, 2, none⟩ = false := blk_frozen hnew4 2
            have f4 : w4.frozen? ⟨g, 4, none⟩ = false := blk_frozen hnew4 4
            have HST4 := Aside0.mk (hst4.fill (.slice A9 n9 c9))
            clear hbel3 hrd3 hb4 hst4 hnew4 h0 h2 h4
            go_wp2
            have HREL : Aside0 (RNew w ((w4.setCell ⟨g, 2, none⟩ (.slice A9 n9 c9)).setCell ⟨g, 4, none⟩ (.bool true)) (i + 1) L (R ++ [⟨(L[i]'hlt).name, g, true, .slice A9 n9 c9⟩])) := ⟨by
              refine ⟨HST4.out.1, ?_, ?_, HB4.out.trans HST4.out.2, ?_⟩
              · rw [HEL.out, List.map_append, List.map_append, HR.out.names]; simp
              · intro x hx
                rcases List.mem_append.1 hx with hx | hx
                · exact HR.out.had x hx
                · obtain rfl := List.mem_singleton.1 hx
                  rfl
              · rw [HEL.out, List.pairwise_append]
                refine ⟨HR.out.apart, by simp, fun x hx y hy => ?_⟩
                obtain rfl := List.mem_singleton.1 hy
                intro e
                have hxm : x.name ∈ R.map (·.name) := by rw [HR.out.names]; exact List.mem_map.2 ⟨x, hx, rfl⟩
                obtain ⟨z, hz, hzn⟩ := List.mem_map.1 hxm
                exact HNO.out z hz (by rw [hzn, e])⟩
            go_roundw
            case rel => exact ⟨i + 1, by go_num, ⟨hlt⟩, _, HREL⟩
            case measure => simp [intOf]; omega
        · have hltb : decide ((i : Int) < (L.length : Int)) = false := decide_eq_false (by omega)
          have hlen2 : L.take i = L := List.take_of_length_le (by omega)
          have HAP : Aside0 (L.Pairwise fun x y => x.name ≠ y.name) := ⟨by have := hr.out.apart; rw [hlen2] at this; exact this⟩
          clear hlen2
          go_wp2_with fail
          go_returns
          exact ⟨hr.out.bel, .inr (.inr ⟨HALL.out, HAP.out, _, rfl⟩)⟩
end Go.Proofs.Ytkjliijcnllohaa.S
