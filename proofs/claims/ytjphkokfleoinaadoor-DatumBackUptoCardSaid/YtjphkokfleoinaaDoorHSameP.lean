
/- rostrumplain.SameDatum: the contract of the functions that call each other. -/
import Derived.Test.YtjphkokfleoinaaDoorHSame
import Derived.Test.YtjphkokfleoinaaDoorDx0
import Derived.Handy
namespace Go.Proofs.YtjphkokfleoinaaDoor.D
open Go.RowKit Go.Proofs.YtjphkokfleoinaaDoorW.PrintWords Go.Proofs.YtjphkokfleoinaaDoorW.PrintLast Go.Proofs.YtjphkokfleoinaaDoorW.PrintMore
set_option linter.unusedVariables false
set_option linter.unusedSimpArgs false

mutual
/-- Two data are the same. -/
def same : S24 → S24 → Bool
  | ⟨k, t, l, u⟩, ⟨k', t', l', u'⟩ => (k == k') && ((t.toList == t'.toList) && (sameL l l' && sameL u u'))
def sameL : List S24 → List S24 → Bool
  | [], [] => true
  | a :: l, b :: l' => same a b && sameL l l'
  | _, _ => false
end

/-- datum.Same's contract at two data. -/
def SameAt (a b : S24) : Prop := ∀ (va vb : List Value) (W : World), k24.K W a va → k24.K W b vb →
  Calls Tryd.prog 8 #[.agg va.toArray, .agg vb.toArray] W fun e W' => e = .returned (.bool (same a b)) ∧ Below W.heap.size W W'

theorem sameL_len {l l' : List S24} (h : l.length ≠ l'.length) : sameL l l' = false := by
  induction l generalizing l' with
  | nil => cases l' <;> simp_all [sameL]
  | cons a l ih =>
    cases l' with
    | nil => simp [sameL]
    | cons b l' => simp only [sameL, ih (by simpa using h), Bool.and_false]

set_option maxHeartbeats 1000000 in
set_option maxRecDepth 100000 in
theorem eqf (l1 l2 : List S24) (hf : ∀ i, i < l1.length → i < l2.length → SameAt (rd_T24 l1 i) (rd_T24 l2 i)) (A1 : Option Addr) (c1 : Nat) (A2 : Option Addr) (c2 : Nat) (w : World)
    (h1 : Kd.C k24 w A1 l1.length l1) (h2 : Kd.C k24 w A2 l2.length l2) :
    Calls Tryd.prog 34 #[.slice A1 l1.length c1, .slice A2 l2.length c2, .func (.func 8) #[] #[]] w fun e w' => e = .returned (.bool (sameL l1 l2)) ∧ Below w.heap.size w w' := by
  have hu24 := Tryd.underlying24
  by_cases hl : l1.length = l2.length
  · have hm := Kd.C_max h1
    have hne : ((l1.length : Int) != (l2.length : Int)) = false := by simp [hl]
    have hl' := Aside0.mk hl
    clear hl
    have H1 := Aside0.mk h1
    have H2 := Aside0.mk h2
    have HF := Aside0.mk hf
    clear h1 h2 hf
    go_enter Tryd.func34, Tryd.ntmps34
    go_wp2_with fail
    go_loopw [17] (fun v17 wr => ∃ i : Nat, v17 = .int .i64 i ∧ Aside0 (i ≤ l1.length) ∧ Aside0 (sameL l1 l2 = sameL (l1.drop i) (l2.drop i)) ∧ Aside0 (Below w.heap.size w wr)) (fun v17 wr => l1.length - (intOf v17).toNat)
    case atStart => exact ⟨0, rfl, ⟨Nat.zero_le _⟩, ⟨rfl⟩, ⟨Below.refl _ _⟩⟩
    case round =>
      obtain ⟨i, rfl, hi, hs, HB⟩ := hrel
      by_cases hlt : i < l1.length
      · have hlt2 : i < l2.length := by have := hl'.out; omega
        have hlt' : ((i : Int) < (l1.length : Int)) := by omega
        have hltb : decide ((i : Int) < (l1.length : Int)) = true := decide_eq_true hlt'
        obtain ⟨ad, B2, d2, B3, d3, e1, x0, x1, x2, x3, ll2, hi2, ll3, hi3⟩ := at_T24 H1.out i (by omega) (by omega)
        obtain ⟨bd, C2, f2, C3, f3, e2, y0, y1, y2, y3, kk2, ji2, kk3, ji3⟩ := at_T24 H2.out i (by omega) (by omega)
        cases e1; cases e2
        simp only [Int.toNat_natCast] at x0 x1 x2 x3 y0 y1 y2 y3
        replace x0 := (HB.out.cell (World.block_lt_of_cell? w _ x0)).trans x0
        replace x1 := (HB.out.cell (World.block_lt_of_cell? w _ x1)).trans x1
        replace x2 := (HB.out.cell (World.block_lt_of_cell? w _ x2)).trans x2
        replace x3 := (HB.out.cell (World.block_lt_of_cell? w _ x3)).trans x3
        replace y0 := (HB.out.cell (World.block_lt_of_cell? w _ y0)).trans y0
        replace y1 := (HB.out.cell (World.block_lt_of_cell? w _ y1)).trans y1
        replace y2 := (HB.out.cell (World.block_lt_of_cell? w _ y2)).trans y2
        replace y3 := (HB.out.cell (World.block_lt_of_cell? w _ y3)).trans y3
        have G2 := Aside0.mk hi2
        have G3 := Aside0.mk hi3
        have J2 := Aside0.mk ji2
        have J3 := Aside0.mk ji3
        clear hi2 hi3 ji2 ji3
        have YY := Aside0.mk (show ∀ o : Obj, (wr.alloc o).cell? (bd.add (i * 4)) = _ from fun o => (World.cell?_alloc_lt wr o _ (World.block_lt_of_cell? wr _ y0)).trans y0)
        have z0 : ∀ o : Obj, (wr.alloc o).cell? (bd.add (i * 4)) = _ := fun o => (World.cell?_alloc_lt wr o _ (World.block_lt_of_cell? wr _ y0)).trans y0
        have z1 : ∀ o : Obj, (wr.alloc o).cell? ⟨(bd.add (i * 4)).block, (bd.add (i * 4)).off + 1, none⟩ = _ := fun o => (World.cell?_alloc_lt wr o _ (World.block_lt_of_cell? wr _ y1)).trans y1
        have z2 : ∀ o : Obj, (wr.alloc o).cell? ⟨(bd.add (i * 4)).block, (bd.add (i * 4)).off + 2, none⟩ = _ := fun o => (World.cell?_alloc_lt wr o _ (World.block_lt_of_cell? wr _ y2)).trans y2
        have z3 : ∀ o : Obj, (wr.alloc o).cell? ⟨(bd.add (i * 4)).block, (bd.add (i * 4)).off + 3, none⟩ = _ := fun o => (World.cell?_alloc_lt wr o _ (World.block_lt_of_cell? wr _ y3)).trans y3
        clear y0 y1 y2 y3
        have L2 := Aside0.mk ll2
        have L3 := Aside0.mk ll3
        have M2 := Aside0.mk kk2
        have M3 := Aside0.mk kk3
        clear ll2 ll3 kk2 kk3
        go_wp2_with fail
        clear x0 x1 x2 x3 z0 z1 z2 z3
        refine (HF.out i hlt hlt2 [_, _, _, _] [_, _, _, _] _ (k24_mk _ _ L2.out (Kd.C_alloc (Kd.C_alloc (Kd.C_below G2.out HB.out) _) _) L3.out (Kd.C_alloc (Kd.C_alloc (Kd.C_below G3.out HB.out) _) _)) (k24_mk _ _ M2.out (Kd.C_alloc (Kd.C_alloc (Kd.C_below J2.out HB.out) _) _) M3.out (Kd.C_alloc (Kd.C_alloc (Kd.C_below J3.out HB.out) _) _))).mono ?_
        rintro e w' ⟨rfl, hb⟩
        have HB2 := Aside0.mk (below_step (below_alloc (below_alloc HB.out _) _) hb)
        clear hb
        have hst : sameL (l1.drop i) (l2.drop i) = (same (rd_T24 l1 i) (rd_T24 l2 i) && sameL (l1.drop (i + 1)) (l2.drop (i + 1))) := by
          rw [List.drop_eq_getElem_cons hlt, List.drop_eq_getElem_cons hlt2]
          simp only [sameL, rd_T24, Int.toNat_natCast, List.getD_eq_getElem?_getD, List.getElem?_eq_getElem hlt, List.getElem?_eq_getElem hlt2, Option.getD_some]
        cases hsm : same (rd_T24 l1 i) (rd_T24 l2 i) with
        | true =>
          have hq := Aside0.mk (hs.out.trans (hst.trans (by rw [hsm, Bool.true_and])))
          clear hst hsm
          go_wp2_with fail
          go_roundw
          case rel => exact ⟨i + 1, by go_num, ⟨hlt⟩, hq, HB2⟩
          case measure => simp [intOf]; omega
        | false =>
          have hq := Aside0.mk (hs.out.trans (hst.trans (by rw [hsm, Bool.false_and])))
          clear hst hsm
          go_wp2_with fail
          go_ret
          exact ⟨by rw [hq.out]; rfl, HB2.out⟩
      · have hltb : decide ((i : Int) < (l1.length : Int)) = false := decide_eq_false (by omega)
        have hz : Aside0 (sameL l1 l2 = true) := ⟨by rw [hs.out, List.drop_eq_nil_of_le (by omega), List.drop_eq_nil_of_le (by have := hl'.out; omega)]; rfl⟩
        go_wp2_with fail
        go_ret
        exact ⟨by rw [hz.out]; rfl, HB.out⟩
  · have hne : ((l1.length : Int) != (l2.length : Int)) = true := by simp; omega
    have hne2 : ¬ (l1.length = l2.length) := hl
    have hd := Aside0.mk (sameL_len hl)
    have hl' := Aside0.mk hl
    clear hl
    go_enter Tryd.func34, Tryd.ntmps34
    go_wp2_with fail
    go_ret
    exact ⟨by rw [hd.out]; rfl, Below.refl _ _⟩


set_option maxHeartbeats 1000000 in
set_option maxRecDepth 100000 in
theorem seqf (l1 l2 : List S24) (hf : ∀ i, i < l1.length → i < l2.length → SameAt (rd_T24 l1 i) (rd_T24 l2 i)) (A1 : Option Addr) (c1 : Nat) (A2 : Option Addr) (c2 : Nat) (w : World)
    (h1 : Kd.C k24 w A1 l1.length l1) (h2 : Kd.C k24 w A2 l2.length l2) :
    Calls Tryd.prog 17 #[.slice A1 l1.length c1, .slice A2 l2.length c2] w fun e w' => e = .returned (.bool (sameL l1 l2)) ∧ Below w.heap.size w w' := by
  have HE := Aside0.mk (eqf l1 l2 hf A1 c1 A2 c2 w h1 h2)
  clear h1 h2 hf
  go_enter Tryd.func17, Tryd.ntmps17
  go_wp2_with fail
  refine HE.out.mono ?_
  rintro e w' ⟨rfl, hb⟩
  have HB := Aside0.mk hb
  clear hb
  go_wp2_with fail
  go_ret
  exact ⟨rfl, HB.out⟩

set_option maxHeartbeats 1000000 in
set_option maxRecDepth 100000 in
theorem same_at (n : Nat) : ∀ a b : S24, SizeOf.sizeOf a ≤ n → SameAt a b := by
  induction n with
  | zero => intro a b h; cases a; simp at h
  | succ n ih =>
    intro a b hn va vb w ha hb
    obtain ⟨A2, c2, A3, c3, rfl, l2, g2, l3, g3⟩ := k24_open ha
    obtain ⟨B2, d2, B3, d3, rfl, m2, j2, m3, j3⟩ := k24_open hb
    have hu24 := Tryd.underlying24
    obtain ⟨k, t, la, ua⟩ := a
    obtain ⟨k', t', lb, ub⟩ := b
    simp only at *
    have hL : ∀ i, i < la.length → i < lb.length → SameAt (rd_T24 la i) (rd_T24 lb i) := fun i h _ => ih _ _ (by
      have := List.sizeOf_lt_of_mem (rd_mem h)
      simp only [S24.mk.sizeOf_spec] at hn
      omega)
    have hU : ∀ i, i < ua.length → i < ub.length → SameAt (rd_T24 ua i) (rd_T24 ub i) := fun i h _ => ih _ _ (by
      have := List.sizeOf_lt_of_mem (rd_mem h)
      simp only [S24.mk.sizeOf_spec] at hn
      omega)
    clear ih ha hb hn
    have HL := Aside0.mk hL
    have HU := Aside0.mk hU
    have G2 := Aside0.mk g2
    have G3 := Aside0.mk g3
    have J2 := Aside0.mk j2
    have J3 := Aside0.mk j3
    clear hL hU g2 g3 j2 j3 l2 l3 m2 m3
    show Calls Tryd.prog 8 #[.agg #[.int .i64 k, .string t, .slice A2 la.length c2, .slice A3 ua.length c3], .agg #[.int .i64 k', .string t', .slice B2 lb.length d2, .slice B3 ub.length d3]] w _
    cases hk : (k == k') with
    | false =>
      have hz : Aside0 (same ⟨k, t, la, ua⟩ ⟨k', t', lb, ub⟩ = false) := ⟨by simp only [same, hk, Bool.false_and]⟩
      go_enter Tryd.func8, Tryd.ntmps8
      go_wp2_with fail
      go_ret
      exact ⟨by rw [hz.out]; rfl, below_alloc (below_alloc (Below.refl _ _) _) _⟩
    | true =>
      cases ht : (t.toList == t'.toList) with
      | false =>
        have hz : Aside0 (same ⟨k, t, la, ua⟩ ⟨k', t', lb, ub⟩ = false) := ⟨by simp only [same, hk, ht, Bool.false_and, Bool.and_false]⟩
        go_enter Tryd.func8, Tryd.ntmps8
        go_wp2_with fail
        go_ret
        exact ⟨by rw [hz.out]; rfl, below_alloc (below_alloc (Below.refl _ _) _) _⟩
      | true =>
        have hz : Aside0 (same ⟨k, t, la, ua⟩ ⟨k', t', lb, ub⟩ = (sameL la lb && sameL ua ub)) := ⟨by simp only [same, hk, ht, Bool.true_and]⟩
        go_enter Tryd.func8, Tryd.ntmps8
        go_wp2_with fail
        refine (seqf la lb HL.out _ _ _ _ _ (Kd.C_alloc (Kd.C_alloc G2.out _) _) (Kd.C_alloc (Kd.C_alloc J2.out _) _)).mono ?_
        rintro e w' ⟨rfl, hb⟩
        have HB := Aside0.mk (below_step (below_alloc (below_alloc (Below.refl w.heap.size w) _) _) hb)
        have b0 := blk_below (blk_alloc (Go.heap_alloc_new w _) _) hb
        have b1 := blk_below (Go.heap_alloc_new (w.alloc _) _) hb
        simp only [World.size_alloc] at b1
        have x3 : w'.cell? ⟨w.heap.size, 3, none⟩ = some (.slice A3 ua.length c3) := (blk_cell b0 3).trans rfl
        have y3 : w'.cell? ⟨w.heap.size + 1, 3, none⟩ = some (.slice B3 ub.length d3) := (blk_cell b1 3).trans rfl
        clear hb b0 b1
        cases hs : sameL la lb with
        | false =>
          have hq : Aside0 (same ⟨k, t, la, ua⟩ ⟨k', t', lb, ub⟩ = false) := ⟨by rw [hz.out, hs, Bool.false_and]⟩
          clear hs
          go_wp2_with fail
          go_ret
          exact ⟨by rw [hq.out]; rfl, HB.out⟩
        | true =>
          have hq : Aside0 (same ⟨k, t, la, ua⟩ ⟨k', t', lb, ub⟩ = sameL ua ub) := ⟨by rw [hz.out, hs, Bool.true_and]⟩
          clear hs
          go_wp2_with fail
          refine (seqf ua ub HU.out _ _ _ _ _ (Kd.C_below G3.out HB.out) (Kd.C_below J3.out HB.out)).mono ?_
          rintro e w2 ⟨rfl, hb⟩
          have HB2 := Aside0.mk (below_step HB.out hb)
          clear hb x3 y3
          cases hs : sameL ua ub with
          | false =>
            have hq2 := Aside0.mk (hq.out.trans hs)
            clear hs
            go_wp2_with fail
            go_ret
            exact ⟨by rw [hq2.out]; rfl, HB2.out⟩
          | true =>
            have hq2 := Aside0.mk (hq.out.trans hs)
            clear hs
            go_wp2_with fail
            go_ret
            exact ⟨by rw [hq2.out]; rfl, HB2.out⟩

theorem same_refl (n : Nat) : (∀ a : S24, SizeOf.sizeOf a ≤ n → same a a = true) ∧ (∀ l : List S24, SizeOf.sizeOf l ≤ n → sameL l l = true) := by
  induction n with
  | zero => exact ⟨fun a h => by cases a; simp at h, fun l h => by cases l <;> simp at h⟩
  | succ n ih =>
    refine ⟨fun a h => ?_, fun l h => ?_⟩
    · obtain ⟨k, t, l, u⟩ := a
      simp only [S24.mk.sizeOf_spec] at h
      simp only [same, beq_self_eq_true, Bool.true_and, ih.2 l (by omega), ih.2 u (by omega)]
    · cases l with
      | nil => rfl
      | cons a l =>
        simp only [List.cons.sizeOf_spec] at h
        simp only [sameL, ih.1 a (by omega), ih.2 l (by omega), Bool.and_self]
end Go.Proofs.YtjphkokfleoinaaDoor.D
