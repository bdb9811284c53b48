
/- datum.right: the contract of it, of slices.ContainsFunc and of the function value that it hands over; these call each other. -/
import Derived.Test.YtjphkokfleoinaaDoorDx1
import Derived.Test.YtjphkokfleoinaaDoorDx2
import Derived.Test.YtjphkokfleoinaaDoorHSame
import Derived.Test.YtjphkokfleoinaaDoorHKind
import Derived.Test.YtjphkokfleoinaaDoorHNames2
namespace Go.Proofs.YtjphkokfleoinaaDoor.D
open Go.RowKit Go.Proofs.YtjphkokfleoinaaDoorW.PrintWords Go.Proofs.YtjphkokfleoinaaDoorW.PrintLast Go.Proofs.YtjphkokfleoinaaDoorW.PrintMore
set_option linter.unusedVariables false
set_option linter.unusedSimpArgs false

theorem can_calls (s : ByteArray) (hs : s.size ≤ 9223372036854775807) (w : World) : Calls Tryd.prog 23 #[.string s] w fun e w' => e = .returned (.bool (canL (bytesOf s))) ∧ Drawn0 w w' := by
  obtain ⟨k, hk⟩ := (can_prog s hs).rounds
  exact number_Can.calls k s _ w hk
theorem name_calls (s : ByteArray) (hs : s.size ≤ 9223372036854775807) (w : World) : Calls Tryd.prog 24 #[.string s] w fun e w' => e = .returned (.bool (nameL (bytesOf s))) ∧ Drawn0 w w' := by
  obtain ⟨k, hk⟩ := (name_prog s hs).rounds
  exact datum_name.calls k s _ w hk

mutual
/-- A datum that may be, so deep at most. -/
def rightB : S24 → Int → Bool
  | ⟨k, t, l, u⟩, m =>
    if k = 1 then l.isEmpty && u.isEmpty && canL (bytesOf t)
    else if k = 2 then l.isEmpty && u.isEmpty && (t.toList == [35, 116] || t.toList == [35, 102])
    else if k = 3 then l.isEmpty && u.isEmpty
    else if k = 4 then l.isEmpty && u.isEmpty && nameL (bytesOf t)
    else if k = 6 then u.isEmpty && decide (0 < m) && t.toList.isEmpty && rightL l (m - 1) && rightL u (m - 1)
    else if k = 5 then decide (u.length ≤ 1) && (u.isEmpty || !l.isEmpty && (rd_T24 u 0).f0 != 5) && decide (0 < m) && t.toList.isEmpty && rightL l (m - 1) && rightL u (m - 1)
    else false
def rightL : List S24 → Int → Bool
  | [], _ => true
  | a :: l, m => rightB a m && rightL l m
end

theorem rightL_all (l : List S24) (m : Int) : rightL l m = l.all fun a => rightB a m := by
  induction l with
  | nil => rfl
  | cons a l ih => simp only [rightL, List.all_cons, ih]

theorem rd_cast' {l : List S24} {i : Nat} (h : i < l.length) : rd_T24 l (i : Int) = l[i] := by
  simp only [rd_T24, Int.toNat_natCast, List.getD_eq_getElem?_getD, List.getElem?_eq_getElem h, Option.getD_some]

/-- The first element that is wrong; -1: there is none. -/
def wrongAt (l : List S24) (m : Int) : Int :=
  match l.findIdx? (fun a => !rightB a m) with
  | some i => i
  | none => -1
theorem wrongAt_ge (l : List S24) (m : Int) : decide (0 ≤ wrongAt l m) = !rightL l m := by
  unfold wrongAt
  cases h : l.findIdx? (fun a => !rightB a m) with
  | some i =>
    have := List.findIdx?_eq_some_iff_findIdx_eq.1 h
    rw [rightL_all, List.all_eq_not_any_not, Bool.not_not]
    have hi : (l.any fun a => !rightB a m) = true := by
      rw [List.any_eq_true]
      obtain ⟨hl, e⟩ := this
      exact ⟨l[i], List.getElem_mem hl, by subst e; exact List.findIdx_getElem (w := hl)⟩
    rw [hi]
    simp
  | none =>
    rw [List.findIdx?_eq_none_iff] at h
    rw [rightL_all]
    have : (l.all fun a => rightB a m) = true := by
      rw [List.all_eq_true]
      intro x hx
      simpa using h x hx
    rw [this]
    simp

def RightAt (a : S24) : Prop := ∀ (m : Int) (va : List Value) (W : World), -9223372036854775808 ≤ m → m ≤ 9223372036854775807 → k24.K W a va →
  Calls Tryd.prog 13 #[.agg va.toArray, .int .i64 m] W fun e W' => e = .returned (.bool (rightB a m)) ∧ Below W.heap.size W W'

set_option maxHeartbeats 1000000 in
set_option maxRecDepth 100000 in
/-- The function value: is it wrong? -/
theorem wrong_any (a : S24) (hr : RightAt a) (m : Int) (hm : 0 < m) (hm2 : m ≤ 9223372036854775807) (va : List Value) (g : Nat) (W : World) (ha : k24.K W a va) (hg : W.cell? ⟨g, 0, none⟩ = some (.int .i64 m)) :
    Calls Tryd.prog 25 #[.agg va.toArray, .pointer (some ⟨g, 0, none⟩)] W fun e W' => e = .returned (.bool (!rightB a (m - 1))) ∧ Below W.heap.size W W' := by
  have hu24 := Tryd.underlying24
  obtain ⟨A2, c2, A3, c3, rfl, l2, g2, l3, g3⟩ := k24_open ha
  have HK := Aside0.mk ha
  have HR := Aside0.mk hr
  clear ha g2 g3 l2 l3 hr
  have hgl := World.block_lt_of_cell? W _ hg
  have hg2 : ∀ o : Obj, (W.alloc o).cell? ⟨g, 0, none⟩ = some (.int .i64 m) := fun o => (World.cell?_alloc_lt W o _ hgl).trans hg
  clear hg hgl
  show Calls Tryd.prog 25 #[.agg #[.int .i64 a.f0, .string a.f1, .slice A2 a.f2.length c2, .slice A3 a.f3.length c3], .pointer (some ⟨g, 0, none⟩)] W _
  have hm3 := Aside0.mk hm
  go_enter Tryd.func25, Tryd.ntmps25
  go_wp2_with fail
  refine (HR.out (m - 1) [_, _, _, _] _ (by omega) (by omega) (k24.K_below (below_alloc (Below.refl _ _) _) HK.out)).mono ?_
  rintro e w' ⟨rfl, hb⟩
  have HB := Aside0.mk (below_step (below_alloc (Below.refl W.heap.size W) _) hb)
  clear hb
  cases h : rightB a (m - 1) with
  | true =>
    have h' := Aside0.mk h
    clear h
    go_wp2_with fail
    go_ret
    exact ⟨by rw [h'.out]; rfl, HB.out⟩
  | false =>
    have h' := Aside0.mk h
    clear h
    go_wp2_with fail
    go_ret
    exact ⟨by rw [h'.out]; rfl, HB.out⟩


theorem findIdx_go (l : List S24) (p : S24 → Bool) (i : Nat) (hi : i < l.length) (hb : ∀ j, j < i → p (rd_T24 l j) = false) (hp : p (rd_T24 l i) = true) : l.findIdx? p = some i := by
  rw [List.findIdx?_eq_some_iff_getElem]
  refine ⟨hi, ?_, fun j hj => ?_⟩
  · rw [← rd_cast' hi]; exact hp
  · have := hb j hj
    rw [rd_cast' (by omega)] at this
    simp [this]

set_option maxHeartbeats 1000000 in
set_option maxRecDepth 100000 in
theorem indexf (l : List S24) (m : Int) (hm : 0 < m) (hm2 : m ≤ 9223372036854775807) (hf : ∀ i : Nat, i < l.length → RightAt (rd_T24 l i)) (A : Option Addr) (c : Nat) (g : Nat) (w : World)
    (h1 : Kd.C k24 w A l.length l) (hg : w.cell? ⟨g, 0, none⟩ = some (.int .i64 m)) :
    Calls Tryd.prog 42 #[.slice A l.length c, .func (.func 25) #[] #[.pointer (some ⟨g, 0, none⟩)]] w fun e w' => e = .returned (.int .i64 (wrongAt l (m - 1))) ∧ Below w.heap.size w w' := by
  have hu24 := Tryd.underlying24
  have hmx := Kd.C_max h1
  have H1 := Aside0.mk h1
  have HF := Aside0.mk hf
  have HG := Aside0.mk hg
  have HM := Aside0.mk (And.intro hm hm2)
  clear h1 hf hg hm hm2
  go_enter Tryd.func42, Tryd.ntmps42
  go_wp2_with fail
  go_loopw [8] (fun v8 wr => ∃ i : Nat, v8 = .int .i64 i ∧ Aside0 (i ≤ l.length) ∧ Aside0 (∀ j : Nat, j < i → (!rightB (rd_T24 l j) (m - 1)) = false) ∧ Aside0 (Below w.heap.size w wr)) (fun v8 wr => l.length - (intOf v8).toNat)
  case atStart => exact ⟨0, rfl, ⟨Nat.zero_le _⟩, ⟨fun j h => by omega⟩, ⟨Below.refl _ _⟩⟩
  case round =>
    obtain ⟨i, rfl, hi, hs, HB⟩ := hrel
    by_cases hlt : i < l.length
    · have hlt' : ((i : Int) < (l.length : Int)) := by omega
      have hltb : decide ((i : Int) < (l.length : Int)) = true := decide_eq_true hlt'
      obtain ⟨ad, B2, d2, B3, d3, e1, x0, x1, x2, x3, ll2, hi2, ll3, hi3⟩ := at_T24 H1.out i (by omega) (by omega)
      cases e1
      replace x0 := (HB.out.cell (World.block_lt_of_cell? w _ x0)).trans x0
      replace x1 := (HB.out.cell (World.block_lt_of_cell? w _ x1)).trans x1
      replace x2 := (HB.out.cell (World.block_lt_of_cell? w _ x2)).trans x2
      replace x3 := (HB.out.cell (World.block_lt_of_cell? w _ x3)).trans x3
      simp only [Int.toNat_natCast] at x0 x1 x2 x3
      have HK := Aside0.mk (k24_mk wr (rd_T24 l i) ll2 (Kd.C_below hi2 HB.out) ll3 (Kd.C_below hi3 HB.out))
      have HG2 := Aside0.mk ((HB.out.cell (World.block_lt_of_cell? w _ HG.out)).trans HG.out)
      clear hi2 hi3 ll2 ll3
      go_wp2_with fail
      clear x0 x1 x2 x3
      refine (wrong_any (rd_T24 l i) (HF.out i hlt) m HM.out.1 HM.out.2 [_, _, _, _] g _ HK.out HG2.out).mono ?_
      rintro e w' ⟨rfl, hb⟩
      have HB2 := Aside0.mk (below_step HB.out hb)
      clear hb
      cases hsm : rightB (rd_T24 l i) (m - 1) with
      | true =>
        have hq := Aside0.mk (show ∀ j : Nat, j < i + 1 → (!rightB (rd_T24 l j) (m - 1)) = false from fun j hj => by
          rcases Nat.lt_or_ge j i with h | h
          · exact hs.out j h
          · obtain rfl : j = i := by omega
            rw [hsm]; rfl)
        clear hsm
        go_wp2_with fail
        go_roundw
        case rel => exact ⟨i + 1, by go_num, ⟨hlt⟩, hq, HB2⟩
        case measure => simp [intOf]; omega
      | false =>
        have hq : Aside0 (wrongAt l (m - 1) = i) := ⟨by unfold wrongAt; rw [findIdx_go l _ i hlt hs.out (by rw [hsm]; rfl)]⟩
        clear hsm
        go_wp2_with fail
        go_ret
        exact ⟨by rw [hq.out]; rfl, HB2.out⟩
    · have hltb : decide ((i : Int) < (l.length : Int)) = false := decide_eq_false (by omega)
      have hz : Aside0 (wrongAt l (m - 1) = -1) := ⟨by
        unfold wrongAt
        have : l.findIdx? (fun a => !rightB a (m - 1)) = none := by
          rw [List.findIdx?_eq_none_iff]
          intro x hx
          obtain ⟨j, hj, rfl⟩ := List.getElem_of_mem hx
          have := hs.out j (by omega)
          rw [rd_cast' hj] at this
          exact this
        rw [this]⟩
      go_wp2_with fail
      go_ret
      exact ⟨by rw [hz.out]; rfl, HB.out⟩

set_option maxHeartbeats 1000000 in
theorem containsf (l : List S24) (m : Int) (hm : 0 < m) (hm2 : m ≤ 9223372036854775807) (hf : ∀ i : Nat, i < l.length → RightAt (rd_T24 l i)) (A : Option Addr) (c : Nat) (g : Nat) (w : World)
    (h1 : Kd.C k24 w A l.length l) (hg : w.cell? ⟨g, 0, none⟩ = some (.int .i64 m)) :
    Calls Tryd.prog 26 #[.slice A l.length c, .func (.func 25) #[] #[.pointer (some ⟨g, 0, none⟩)]] w fun e w' => e = .returned (.bool (!rightL l (m - 1))) ∧ Below w.heap.size w w' := by
  have HC := Aside0.mk (indexf l m hm hm2 hf A c g w h1 hg)
  have hw := Aside0.mk (wrongAt_ge l (m - 1))
  clear h1 hg hf hm hm2
  go_enter Tryd.func26, Tryd.ntmps26
  go_wp2_with fail
  refine HC.out.mono ?_
  rintro e w' ⟨rfl, hb⟩
  have HB := Aside0.mk hb
  clear hb
  go_wp2_with fail
  go_ret
  exact ⟨by rw [← hw.out]; rfl, HB.out⟩

end Go.Proofs.YtjphkokfleoinaaDoor.D
