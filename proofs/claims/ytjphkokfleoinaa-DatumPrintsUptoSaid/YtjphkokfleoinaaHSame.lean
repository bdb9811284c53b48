/- datum.Same: the contract of the two functions that call each other (datum.Same and slices.EqualFunc over it). -/
import Derived.Test.YtjphkokfleoinaaDx0
import Derived.Handy
namespace Go.Proofs.Ytjphkokfleoinaa.D
open Go.RowKit Go.Proofs.YtjphkokfleoinaaW.PrintWords Go.Proofs.YtjphkokfleoinaaW.PrintLast Go.Proofs.YtjphkokfleoinaaW.PrintMore
set_option linter.unusedVariables false
set_option linter.unusedSimpArgs false

mutual
/-- Two data are the same. -/
def same : S24 → S24 → Bool
  | ⟨k, t, l, u⟩, ⟨k', t', l', u'⟩ => (k == k') && ((t.toList == t'.toList) && (sameL l l' && sameL u u'))
def sameL : List S24 → List S24 → Bool
  | [], [] => true
  | a :: l, b :: l' => same a b && sameL l l'
  | _, _ => false
end

/-- datum.Same's contract at two data. -/
def SameAt (a b : S24) : Prop := ∀ (va vb : List Value) (W : World), k24.K W a va → k24.K W b vb →
  Calls Try.prog 5 #[.agg va.toArray, .agg vb.toArray] W fun e W' => e = .returned (.bool (same a b)) ∧ Below W.heap.size W W'

theorem sameL_len {l l' : List S24} (h : l.length ≠ l'.length) : sameL l l' = false := by
  induction l generalizing l' with
  | nil => cases l' <;> simp_all [sameL]
  | cons a l ih =>
    cases l' with
    | nil => simp [sameL]
    | cons b l' => simp only [sameL, ih (by simpa using h), Bool.and_false]

set_option maxHeartbeats 1000000 in
set_option maxRecDepth 100000 in
theorem eqf (l1 l2 : List S24) (hf : ∀ i, i < l1.length → i < l2.length → SameAt (rd_T24 l1 i) (rd_T24 l2 i)) (A1 : Option Addr) (c1 : Nat) (A2 : Option Addr) (c2 : Nat) (w : World)
    (h1 : Kd.C k24 w A1 l1.length l1) (h2 : Kd.C k24 w A2 l2.length l2) :
    Calls Try.prog 15 #[.slice A1 l1.length c1, .slice A2 l2.length c2, .func (.func 5) #[] #[]] w fun e w' => e = .returned (.bool (sameL l1 l2)) ∧ Below w.heap.size w w' := by
  have hu24 := Try.underlying24
  by_cases hl : l1.length = l2.length
  · have hm := Kd.C_max h1
    have hne : ((l1.length : Int) != (l2.length : Int)) = false := by simp [hl]
    have hl' := Aside0.mk hl
    clear hl
    have H1 := Aside0.mk h1
    have H2 := Aside0.mk h2
    have HF := Aside0.mk hf
    clear h1 h2 hf
    go_enter Try.func15, Try.ntmps15
    go_wp2_with fail
    go_loopw [17] (fun v17 wr => ∃ i : Nat, v17 = .int .i64 i ∧ Aside0 (i ≤ l1.length) ∧ Aside0 (sameL l1 l2 = sameL (l1.drop i) (l2.drop i)) ∧ Aside0 (Below w.heap.size w wr)) (fun v17 wr => l1.length - (intOf v17).toNat)
    case atStart => exact ⟨0, rfl, ⟨Nat.zero_le _⟩, ⟨rfl⟩, ⟨Below.refl _ _⟩⟩
    case round =>
      obtain ⟨i, rfl, hi, hs, HB⟩ := hrel
      by_cases hlt : i < l1.length
      · have hlt2 : i < l2.length := by have := hl'.out; omega
        have hlt' : ((i : Int) < (l1.length : Int)) := by omega
        have hltb : decide ((i : Int) < (l1.length : Int)) = true := decide_eq_true hlt'
        obtain ⟨ad, B2, d2, B3, d3, e1, x0, x1, x2, x3, ll2, hi2, ll3, hi3⟩ := at_T24 H1.out i (by omega) (by omega)
        obtain ⟨bd, C2, f2, C3, f3, e2, y0, y1, y2, y3, kk2, ji2, kk3, ji3⟩ := at_T24 H2.out i (by omega) (by omega)
        cases e1; cases e2
        simp only [Int.toNat_natCast] at x0 x1 x2 x3 y0 y1 y2 y3
        replace x0 := (HB.out.cell (World.block_lt_of_cell? w _ x0)).trans x0
        replace x1 := (HB.out.cell (World.block_lt_of_cell? w _ x1)).trans x1
        replace x2 := (HB.out.cell (World.block_lt_of_cell? w _ x2)).trans x2
        replace x3 := (HB.out.cell (World.block_lt_of_cell? w _ x3)).trans x3
        replace y0 := (HB.out.cell (World.block_lt_of_cell? w _ y0)).trans y0
        replace y1 := (HB.out.cell (World.block_lt_of_cell? w _ y1)).trans y1
        replace y2 := (HB.out.cell (World.block_lt_of_cell? w _ y2)).trans y2
        replace y3 := (HB.out.cell (World.block_lt_of_cell? w _ y3)).trans y3
        have G2 := Aside0.mk hi2
        have G3 := Aside0.mk hi3
        have J2 := Aside0.mk ji2
        have J3 := Aside0.mk ji3
        clear hi2 hi3 ji2 ji3
        have YY := Aside0.mk (show ∀ o : Obj, (wr.alloc o).cell? (bd.add (i * 4)) = _ from fun o => (World.cell?_alloc_lt wr o _ (World.block_lt_of_cell? wr _ y0)).trans y0)
        have z0 : ∀ o : Obj, (wr.alloc o).cell? (bd.add (i * 4)) = _ := fun o => (World.cell?_alloc_lt wr o _ (World.block_lt_of_cell? wr _ y0)).trans y0
        have z1 : ∀ o : Obj, (wr.alloc o).cell? ⟨(bd.add (i * 4)).block, (bd.add (i * 4)).off + 1, none⟩ = _ := fun o => (World.cell?_alloc_lt wr o _ (World.block_lt_of_cell? wr _ y1)).trans y1
        have z2 : ∀ o : Obj, (wr.alloc o).cell? ⟨(bd.add (i * 4)).block, (bd.add (i * 4)).off + 2, none⟩ = _ := fun o => (World.cell?_alloc_lt wr o _ (World.block_lt_of_cell? wr _ y2)).trans y2
        have z3 : ∀ o : Obj, (wr.alloc o).cell? ⟨(bd.add (i * 4)).block, (bd.add (i * 4)).off + 3, none⟩ = _ := fun o => (World.cell?_alloc_lt wr o _ (World.block_lt_of_cell? wr _ y3)).trans y3
        clear y0 y1 y2 y3
        have L2 := Aside0.mk ll2
        have L3 := Aside0.mk ll3
        have M2 := Aside0.mk kk2
        have M3 := Aside0.mk kk3
        clear ll2 ll3 kk2 kk3
        go_wp2_with fail
        clear x0 x1 x2 x3 z0 z1 z2 z3
        refine (HF.out i hlt hlt2 [_, _, _, _] [_, _, _, _] _ (k24_mk _ _ L2.out (Kd.C_alloc (Kd.C_alloc (Kd.C_below G2.out HB.out) _) _) L3.out (Kd.C_alloc (Kd.C_alloc (Kd.C_below G3.out HB.out) _) _)) (k24_mk _ _ M2.out (Kd.C_alloc (Kd.C_alloc (Kd.C_below J2.out HB.out) _) _) M3.out (Kd.C_alloc (Kd.C_alloc (Kd.C_below J3.out HB.out) _) _))).mono ?_
        rintro e w' ⟨rfl, hb⟩
        have HB2 := Aside0.mk (below_step (below_alloc (below_alloc HB.out _) _) hb)
        clear hb
        have hst : sameL (l1.drop i) (l2.drop i) = (same (rd_T24 l1 i) (rd_T24 l2 i) && sameL (l1.drop (i + 1)) (l2.drop (i + 1))) := by
          rw [List.drop_eq_getElem_cons hlt, List.drop_eq_getElem_cons hlt2]
          simp only [sameL, rd_T24, Int.toNat_natCast, List.getD_eq_getElem?_getD, List.getElem?_eq_getElem hlt, List.getElem?_eq_getElem hlt2, Option.getD_some]
        cases hsm : same (rd_T24 l1 i) (rd_T24 l2 i) with
        | true =>
          have hq := Aside0.mk (hs.out.trans (hst.trans (by rw [hsm, Bool.true_and])))
          clear hst hsm
          go_wp2_with fail
          go_roundw
          case rel => exact ⟨i + 1, by go_num, ⟨hlt⟩, hq, HB2⟩
          case measure => simp [intOf]; omega
        | false =>
          have hq := Aside0.mk (hs.out.trans (hst.trans (by rw [hsm, Bool.false_and])))
          clear hst hsm
          go_wp2_with fail
          go_ret
          exact ⟨by rw [hq.out]; rfl, HB2.out⟩
      · have hltb : decide ((i : Int) < (l1.length : Int)) = false := decide_eq_false (by omega)
        have hz : Aside0 (sameL l1 l2 = true) := ⟨by rw [hs.out, List.drop_eq_nil_of_le (by omega), List.drop_eq_nil_of_le (by have := hl'.out; omega)]; rfl⟩
        go_wp2_with fail
        go_ret
        exact ⟨by rw [hz.out]; rfl, HB.out⟩
  · have hne : ((l1.length : Int) != (l2.length : Int)) = true := by simp; omega
    have hne2 : ¬ (l1.length = l2.length) := hl
    have hd := Aside0.mk (sameL_len hl)
    have hl' := Aside0.mk hl
    clear hl
    go_enter Try.func15, Try.ntmps15
    go_wp2_with fail
    go_ret
    exact ⟨by rw [hd.out]; rfl, Below.refl _ _⟩


theorem rd_mem {l : List S24} {i : Nat} (h : i < l.length) : rd_T24 l i ∈ l := by
  simp only [rd_T24, Int.toNat_natCast, List.getD_eq_getElem?_getD, List.getElem?_eq_getElem h, Option.getD_some]
  exact List.getElem_mem h

set_option maxHeartbeats 1000000 in
set_option maxRecDepth 100000 in
theorem same_at (n : Nat) : ∀ a b : S24, SizeOf.sizeOf a ≤ n → SameAt a b := by
  induction n with
  | zero => intro a b h; cases a; simp at h
  | succ n ih =>
    intro a b hn va vb w ha hb
    obtain ⟨A2, c2, A3, c3, rfl, l2, g2, l3, g3⟩ := k24_open ha
    obtain ⟨B2, d2, B3, d3, rfl, m2, j2, m3, j3⟩ := k24_open hb
    have hu24 := Try.underlying24
    obtain ⟨k, t, la, ua⟩ := a
    obtain ⟨k', t', lb, ub⟩ := b
    simp only at *
    have hL : ∀ i, i < la.length → i < lb.length → SameAt (rd_T24 la i) (rd_T24 lb i) := fun i h _ => ih _ _ (by
      have := List.sizeOf_lt_of_mem (rd_mem h)
      simp only [S24.mk.sizeOf_spec] at hn
      omega)
    have hU : ∀ i, i < ua.length → i < ub.length → SameAt (rd_T24 ua i) (rd_T24 ub i) := fun i h _ => ih _ _ (by
      have := List.sizeOf_lt_of_mem (rd_mem h)
      simp only [S24.mk.sizeOf_spec] at hn
      omega)
    clear ih ha hb hn
    have HL := Aside0.mk hL
    have HU := Aside0.mk hU
    have G2 := Aside0.mk g2
    have G3 := Aside0.mk g3
    have J2 := Aside0.mk j2
    have J3 := Aside0.mk j3
    clear hL hU g2 g3 j2 j3 l2 l3 m2 m3
    show Calls Try.prog 5 #[.agg #[.int .i64 k, .string t, .slice A2 la.length c2, .slice A3 ua.length c3], .agg #[.int .i64 k', .string t', .slice B2 lb.length d2, .slice B3 ub.length d3]] w _
    cases hk : (k == k') with
    | false =>
      have hz : Aside0 (same ⟨k, t, la, ua⟩ ⟨k', t', lb, ub⟩ = false) := ⟨by simp only [same, hk, Bool.false_and]⟩
      go_enter Try.func5, Try.ntmps5
      go_wp2_with fail
      go_ret
      exact ⟨by rw [hz.out]; rfl, below_alloc (below_alloc (Below.refl _ _) _) _⟩
    | true =>
      cases ht : (t.toList == t'.toList) with
      | false =>
        have hz : Aside0 (same ⟨k, t, la, ua⟩ ⟨k', t', lb, ub⟩ = false) := ⟨by simp only [same, hk, ht, Bool.false_and, Bool.and_false]⟩
        go_enter Try.func5, Try.ntmps5
        go_wp2_with fail
        go_ret
        exact ⟨by rw [hz.out]; rfl, below_alloc (below_alloc (Below.refl _ _) _) _⟩
      | true =>
        have hz : Aside0 (same ⟨k, t, la, ua⟩ ⟨k', t', lb, ub⟩ = (sameL la lb && sameL ua ub)) := ⟨by simp only [same, hk, ht, Bool.true_and]⟩
        go_enter Try.func5, Try.ntmps5
        go_wp2_with fail
        refine (eqf la lb HL.out _ _ _ _ _ (Kd.C_alloc (Kd.C_alloc G2.out _) _) (Kd.C_alloc (Kd.C_alloc J2.out _) _)).mono ?_
        rintro e w' ⟨rfl, hb⟩
        have HB := Aside0.mk (below_step (below_alloc (below_alloc (Below.refl w.heap.size w) _) _) hb)
        have b0 := blk_below (blk_alloc (Go.heap_alloc_new w _) _) hb
        have b1 := blk_below (Go.heap_alloc_new (w.alloc _) _) hb
        simp only [World.size_alloc] at b1
        have x3 : w'.cell? ⟨w.heap.size, 3, none⟩ = some (.slice A3 ua.length c3) := (blk_cell b0 3).trans rfl
        have y3 : w'.cell? ⟨w.heap.size + 1, 3, none⟩ = some (.slice B3 ub.length d3) := (blk_cell b1 3).trans rfl
        clear hb b0 b1
        cases hs : sameL la lb with
        | false =>
          have hq : Aside0 (same ⟨k, t, la, ua⟩ ⟨k', t', lb, ub⟩ = false) := ⟨by rw [hz.out, hs, Bool.false_and]⟩
          clear hs
          go_wp2_with fail
          go_ret
          exact ⟨by rw [hq.out]; rfl, HB.out⟩
        | true =>
          have hq : Aside0 (same ⟨k, t, la, ua⟩ ⟨k', t', lb, ub⟩ = sameL ua ub) := ⟨by rw [hz.out, hs, Bool.true_and]⟩
          clear hs
          go_wp2_with fail
          refine (eqf ua ub HU.out _ _ _ _ _ (Kd.C_below G3.out HB.out) (Kd.C_below J3.out HB.out)).mono ?_
          rintro e w2 ⟨rfl, hb⟩
          have HB2 := Aside0.mk (below_step HB.out hb)
          clear hb x3 y3
          cases hs : sameL ua ub with
          | false =>
            have hq2 := Aside0.mk (hq.out.trans hs)
            clear hs
            go_wp2_with fail
            go_ret
            exact ⟨by rw [hq2.out]; rfl, HB2.out⟩
          | true =>
            have hq2 := Aside0.mk (hq.out.trans hs)
            clear hs
            go_wp2_with fail
            go_ret
            exact ⟨by rw [hq2.out]; rfl, HB2.out⟩

def datum_Same.f (a0_0 : Int) (a0_1 : ByteArray) (l0_2 : List (S24)) (l0_3 : List (S24)) (a1_0 : Int) (a1_1 : ByteArray) (l1_2 : List (S24)) (l1_3 : List (S24)) : Option (Bool) :=
  some (same ⟨a0_0, a0_1, l0_2, l0_3⟩ ⟨a1_0, a1_1, l1_2, l1_3⟩)
theorem datum_Same.calls (a0_0 : Int) (a0_1 : ByteArray) (A0_2 : Option Addr) (c0_2 : Nat) (l0_2 : List (S24)) (A0_3 : Option Addr) (c0_3 : Nat) (l0_3 : List (S24)) (a1_0 : Int) (a1_1 : ByteArray) (A1_2 : Option Addr) (c1_2 : Nat) (l1_2 : List (S24)) (A1_3 : Option Addr) (c1_3 : Nat) (l1_3 : List (S24)) (r : Bool) (w : World) (hr0_2 : Kd.C k24 w A0_2 l0_2.length l0_2) (hc0_2 : l0_2.length ≤ c0_2) (hr0_3 : Kd.C k24 w A0_3 l0_3.length l0_3) (hc0_3 : l0_3.length ≤ c0_3) (hr1_2 : Kd.C k24 w A1_2 l1_2.length l1_2) (hc1_2 : l1_2.length ≤ c1_2) (hr1_3 : Kd.C k24 w A1_3 l1_3.length l1_3) (hc1_3 : l1_3.length ≤ c1_3) (h : datum_Same.f a0_0 a0_1 l0_2 l0_3 a1_0 a1_1 l1_2 l1_3 = some r) :
    Calls Try.prog 5 #[.agg #[.int .i64 a0_0, .string a0_1, .slice A0_2 l0_2.length c0_2, .slice A0_3 l0_3.length c0_3], .agg #[.int .i64 a1_0, .string a1_1, .slice A1_2 l1_2.length c1_2, .slice A1_3 l1_3.length c1_3]] w fun e w' => e = .returned (.bool r) ∧ Below w.heap.size w w' := by
  have hr : same ⟨a0_0, a0_1, l0_2, l0_3⟩ ⟨a1_0, a1_1, l1_2, l1_3⟩ = r := Option.some.inj h
  subst hr
  exact same_at _ ⟨a0_0, a0_1, l0_2, l0_3⟩ ⟨a1_0, a1_1, l1_2, l1_3⟩ (Nat.le_refl _) _ _ w (k24_mk w ⟨a0_0, a0_1, l0_2, l0_3⟩ hc0_2 hr0_2 hc0_3 hr0_3) (k24_mk w ⟨a1_0, a1_1, l1_2, l1_3⟩ hc1_2 hr1_2 hc1_3 hr1_3)

end Go.Proofs.Ytjphkokfleoinaa.D
