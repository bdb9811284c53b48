/- datum.walk with the function values that Depth and Size hand over to it; Depth and Size. -/
import Derived.Test.YtjphkokfleoinaaHRight2
import Derived.Test.YtjphkokfleoinaaDx7
namespace Go.Proofs.Ytjphkokfleoinaa.D
open Go.RowKit Go.Proofs.YtjphkokfleoinaaW.PrintWords Go.Proofs.YtjphkokfleoinaaW.PrintLast Go.Proofs.YtjphkokfleoinaaW.PrintMore
attribute [local go_sem] max2_int min2_int max_two min_two max_three min_three max_four min_four
set_option linter.unusedVariables false
set_option linter.unusedSimpArgs false

/-- A captured whole number: its block. -/
def At (W : World) (g : Nat) (v : Int) : Prop := W.heap[g]? = some (.cells #[.int .i64 v] 3 (0, 0))
/-- What a function value does that is handed a datum and a depth: it changes its captured number. -/
def DoesAt (fc : Nat) (step : Int → S24 → Int → Int) (x : S24) : Prop := ∀ (w0 : World) (d v : Int) (va : List Value) (W : World) (g : Nat), k24.K w0 x va → Below w0.heap.size w0 W → w0.heap.size ≤ g → At W g v →
  Calls Try.prog fc #[.agg va.toArray, .int .i64 d, .pointer (some ⟨g, 0, none⟩)] W fun e W' => e = .returned (.tuple #[]) ∧ Below w0.heap.size w0 W' ∧ At W' g (step v x d) ∧ KeepBut W W' g none

theorem at_cell {W : World} {g : Nat} {v : Int} (h : At W g v) : W.cell? ⟨g, 0, none⟩ = some (.int .i64 v) := (blk_cell h 0).trans rfl
theorem at_frozen {W : World} {g : Nat} {v : Int} (h : At W g v) : W.frozen? ⟨g, 0, none⟩ = false := blk_frozen h 0
theorem at_set {W : World} {g : Nat} {v u : Int} (h : At W g v) : At (W.setCell ⟨g, 0, none⟩ (.int .i64 u)) g u := blk_set h 0 (.int .i64 u)

set_option maxHeartbeats 1000000 in
theorem size_does (x : S24) : DoesAt 24 (fun v _ _ => wrap64 (v + 1)) x := by
  intro w0 d v va W g hK hB hg hA
  have hu24 := Try.underlying24
  obtain ⟨A2, c2, A3, c3, rfl, l2, g2, l3, g3⟩ := k24_open hK
  have hlt := blk_lt hA
  have hc : ∀ o : Obj, (W.alloc o).cell? ⟨g, 0, none⟩ = some (.int .i64 v) := fun o => at_cell (blk_alloc hA o)
  have hf : ∀ o : Obj, (W.alloc o).frozen? ⟨g, 0, none⟩ = false := fun o => at_frozen (v := v) (blk_alloc hA o)
  have HA := Aside0.mk hA
  have HB := Aside0.mk hB
  have HG := Aside0.mk hg
  clear hA hB hg hK g2 g3 l2 l3
  show Calls Try.prog 24 #[.agg #[.int .i64 x.f0, .string x.f1, .slice A2 x.f2.length c2, .slice A3 x.f3.length c3], .int .i64 d, .pointer (some ⟨g, 0, none⟩)] W _
  go_enter Try.func24, Try.ntmps24
  go_wp2_with fail
  go_end0
  exact ⟨rfl, below_alloc (HB.out.setCell HG.out _) _, blk_alloc (at_set HA.out) _, (KeepBut.set_ (KeepBut.refl W g none) 0 _).trans (KeepBut.of_below (below_alloc (Below.refl _ _) _) g none) (.inl rfl)⟩


def depthStep (v : Int) (x : S24) (d : Int) : Int := if x.f0 = 5 ∨ x.f0 = 6 then mx v d else v
set_option maxHeartbeats 1000000 in
theorem depth_does (x : S24) : DoesAt 23 depthStep x := by
  intro w0 d v va W g hK hB hg hA
  have hu24 := Try.underlying24
  obtain ⟨A2, c2, A3, c3, rfl, l2, g2, l3, g3⟩ := k24_open hK
  have hlt := blk_lt hA
  have hc : ∀ o : Obj, (W.alloc o).cell? ⟨g, 0, none⟩ = some (.int .i64 v) := fun o => at_cell (blk_alloc hA o)
  have hf : ∀ o : Obj, (W.alloc o).frozen? ⟨g, 0, none⟩ = false := fun o => at_frozen (v := v) (blk_alloc hA o)
  have HA := Aside0.mk hA
  have HB := Aside0.mk hB
  have HG := Aside0.mk hg
  clear hA hB hg hK g2 g3 l2 l3
  show Calls Try.prog 23 #[.agg #[.int .i64 x.f0, .string x.f1, .slice A2 x.f2.length c2, .slice A3 x.f3.length c3], .int .i64 d, .pointer (some ⟨g, 0, none⟩)] W _
  cases k5 : (x.f0 == 5) with
  | true =>
    by_cases hvd : v < d
    · have hz : Aside0 (depthStep v x d = d) := ⟨(if_pos (.inl (by simpa using k5))).trans (if_pos hvd)⟩
      go_enter Try.func23, Try.ntmps23
      go_wp2_with fail
      go_end0
      exact ⟨rfl, below_alloc (HB.out.setCell HG.out _) _, by rw [hz.out]; exact blk_alloc (at_set HA.out) _, (KeepBut.set_ (KeepBut.refl W g none) 0 _).trans (KeepBut.of_below (below_alloc (Below.refl _ _) _) g none) (.inl rfl)⟩
    · have hz : Aside0 (depthStep v x d = v) := ⟨(if_pos (.inl (by simpa using k5))).trans (if_neg hvd)⟩
      go_enter Try.func23, Try.ntmps23
      go_wp2_with fail
      go_end0
      exact ⟨rfl, below_alloc (HB.out.setCell HG.out _) _, by rw [hz.out]; exact blk_alloc (at_set HA.out) _, (KeepBut.set_ (KeepBut.refl W g none) 0 _).trans (KeepBut.of_below (below_alloc (Below.refl _ _) _) g none) (.inl rfl)⟩
  | false =>
    have q5 := Aside0.mk (show ¬ x.f0 = 5 by simpa using k5)
    cases k6 : (x.f0 == 6) with
    | true =>
      by_cases hvd : v < d
      · have hz : Aside0 (depthStep v x d = d) := ⟨(if_pos (.inr (by simpa using k6))).trans (if_pos hvd)⟩
        go_enter Try.func23, Try.ntmps23
        go_wp2_with fail
        go_end0
        exact ⟨rfl, below_alloc (HB.out.setCell HG.out _) _, by rw [hz.out]; exact blk_alloc (at_set HA.out) _, (KeepBut.set_ (KeepBut.refl W g none) 0 _).trans (KeepBut.of_below (below_alloc (Below.refl _ _) _) g none) (.inl rfl)⟩
      · have hz : Aside0 (depthStep v x d = v) := ⟨(if_pos (.inr (by simpa using k6))).trans (if_neg hvd)⟩
        go_enter Try.func23, Try.ntmps23
        go_wp2_with fail
        go_end0
        exact ⟨rfl, below_alloc (HB.out.setCell HG.out _) _, by rw [hz.out]; exact blk_alloc (at_set HA.out) _, (KeepBut.set_ (KeepBut.refl W g none) 0 _).trans (KeepBut.of_below (below_alloc (Below.refl _ _) _) g none) (.inl rfl)⟩
    | false =>
      have hz : Aside0 (depthStep v x d = v) := ⟨if_neg (by rintro (h | h); exact q5.out h; simp [h] at k6)⟩
      go_enter Try.func23, Try.ntmps23
      go_wp2_with fail
      go_end0
      exact ⟨rfl, below_alloc HB.out _, by rw [hz.out]; exact blk_alloc HA.out _, KeepBut.of_below (below_alloc (Below.refl _ _) _) g none⟩


mutual
/-- The captured number behind a walk. -/
def walkF (step : Int → S24 → Int → Int) : S24 → Int → Int → Int
  | ⟨k, t, l, u⟩, d, v => walkL step u (wrap64 (d + 1)) (walkL step l (wrap64 (d + 1)) (step v ⟨k, t, l, u⟩ d))
def walkL (step : Int → S24 → Int → Int) : List S24 → Int → Int → Int
  | [], _, v => v
  | a :: l, d, v => walkL step l d (walkF step a d v)
end
theorem walkL_snoc (step : Int → S24 → Int → Int) (l : List S24) (a : S24) (d : Int) : ∀ v, walkL step (l ++ [a]) d v = walkF step a d (walkL step l d v) := by
  induction l with
  | nil => intro v; rfl
  | cons b l ih => intro v; simp only [List.cons_append, walkL, ih]
theorem walkL_take (step : Int → S24 → Int → Int) (l : List S24) (i : Nat) (hi : i < l.length) (d v : Int) : walkL step (l.take (i + 1)) d v = walkF step (rd_T24 l i) d (walkL step (l.take i) d v) := by
  rw [List.take_succ_eq_append_getElem hi, walkL_snoc, rd_cast' hi]

def WalkAt (fc : Nat) (step : Int → S24 → Int → Int) (x : S24) : Prop := ∀ (w0 : World) (d v : Int) (va : List Value) (W : World) (g : Nat), k24.K w0 x va → Below w0.heap.size w0 W → w0.heap.size ≤ g → At W g v →
  Calls Try.prog 22 #[.agg va.toArray, .int .i64 d, .func (.func fc) #[] #[.pointer (some ⟨g, 0, none⟩)]] W fun e W' => e = .returned (.tuple #[]) ∧ Below w0.heap.size w0 W' ∧ At W' g (walkF step x d v) ∧ KeepBut W W' g none

set_option maxHeartbeats 2000000 in
set_option maxRecDepth 100000 in
theorem walk_at (fc : Nat) (step : Int → S24 → Int → Int) (hcf : ∀ (args : Array Value) (w : World), (callFunc fc args).run Try.prog w = .ok (.enter fc args) w) (hdo : ∀ y, DoesAt fc step y) (n : Nat) : ∀ x : S24, SizeOf.sizeOf x ≤ n → WalkAt fc step x := by
  induction n with
  | zero => intro a h; cases a; simp at h
  | succ n ih =>
    intro x hn w0 d v va W g hK hB hg hA
    obtain ⟨A2, c2, A3, c3, rfl, l2, g2, l3, g3⟩ := k24_open hK
    have hu24 := Try.underlying24
    obtain ⟨k, t, la, ua⟩ := x
    simp only at *
    have hL : ∀ i : Nat, i < la.length → WalkAt fc step (rd_T24 la i) := fun i h => ih _ (by
      have := List.sizeOf_lt_of_mem (rd_mem h)
      simp only [S24.mk.sizeOf_spec] at hn
      omega)
    have hU : ∀ i : Nat, i < ua.length → WalkAt fc step (rd_T24 ua i) := fun i h => ih _ (by
      have := List.sizeOf_lt_of_mem (rd_mem h)
      simp only [S24.mk.sizeOf_spec] at hn
      omega)
    have hml := Kd.C_max g2
    have hmu := Kd.C_max g3
    have HL := Aside0.mk hL
    have HU := Aside0.mk hU
    have HD := Aside0.mk (hdo ⟨k, t, la, ua⟩)
    have HK := Aside0.mk hK
    have G2 := Aside0.mk g2
    have G3 := Aside0.mk g3
    have HA := Aside0.mk hA
    have HB := Aside0.mk hB
    have HG := Aside0.mk hg
    have hlt0 := Aside0.mk (blk_lt hA)
    clear ih hK hB hg hA hn hL hU g2 g3 l2 l3 hdo
    show Calls Try.prog 22 #[.agg #[.int .i64 k, .string t, .slice A2 la.length c2, .slice A3 ua.length c3], .int .i64 d, .func (.func fc) #[] #[.pointer (some ⟨g, 0, none⟩)]] W _
    go_enter Try.func22, Try.ntmps22
    go_wp2_with fail
    refine (HD.out w0 d v [_, _, _, _] _ g HK.out (below_alloc HB.out _) HG.out (blk_alloc HA.out _)).mono ?_
    rintro e w1 ⟨rfl, hb1, ha1, hk1⟩
    have hbx := hk1.blk (blk_new W _) (by have := hlt0.out; omega) (by simp)
    have HB1 := Aside0.mk hb1
    have HA1 := Aside0.mk ha1
    have HX1 := Aside0.mk hbx
    have HK1 := Aside0.mk ((KeepBut.of_below (below_alloc (Below.refl W.heap.size W) _) g none).trans hk1 (.inl rfl))
    have hx2 : w1.cell? ⟨W.heap.size, 2, none⟩ = some (.slice A2 la.length c2) := (blk_cell hbx 2).trans rfl
    clear hb1 ha1 hk1 hbx
    go_wp2_with fail
    clear hx2
    go_loopw [17] (fun v17 wr => ∃ i : Nat, v17 = .int .i64 i ∧ Aside0 (i ≤ la.length) ∧ Aside0 (Below w0.heap.size w0 wr) ∧ Aside0 (At wr g (walkL step (la.take i) (wrap64 (d + 1)) (step v ⟨k, t, la, ua⟩ d))) ∧ Aside0 (wr.heap[W.heap.size]? = some (.cells #[.int .i64 k, .string t, .slice A2 la.length c2, .slice A3 ua.length c3] 24 (0, 0))) ∧ Aside0 (KeepBut W wr g none)) (fun v17 wr => la.length - (intOf v17).toNat)
    case atStart => exact ⟨0, rfl, ⟨Nat.zero_le _⟩, HB1, HA1, HX1, HK1⟩
    case round =>
      clear HB1 HA1 HX1 HK1
      obtain ⟨i, rfl, hi, HB1, HA1, HX1, HK1⟩ := hrel
      by_cases hlt : i < la.length
      · have hlt' : ((i : Int) < (la.length : Int)) := by omega
        have hltb : decide ((i : Int) < (la.length : Int)) = true := decide_eq_true hlt'
        obtain ⟨ad, B2, d2, B3, d3, e1, x0, x1, x2, x3, ll2, hi2, ll3, hi3⟩ := at_T24 (Kd.C_below G2.out HB.out) i (by omega) (by omega)
        cases e1
        have KX := HK1.out
        have hy0 := (HB1.out)
        obtain ⟨ad', B2', d2', B3', d3', e1', x0', x1', x2', x3', ll2', hi2', ll3', hi3'⟩ := at_T24 (Kd.C_below G2.out HB1.out) i (by omega) (by omega)
        cases e1'
        simp only [Int.toNat_natCast] at x0' x1' x2' x3'
        clear x0 x1 x2 x3 ll2 hi2 ll3 hi3 hy0 KX
        have HKe := Aside0.mk (show ∃ va, k24.K w0 (rd_T24 la i) va ∧ va = [.int .i64 (rd_T24 la i).f0, .string (rd_T24 la i).f1, .slice B2' (rd_T24 la i).f2.length d2', .slice B3' (rd_T24 la i).f3.length d3'] from by
          obtain ⟨ad2, C2, f2, C3, f3, e2, y0, y1, y2, y3, mm2, ji2, mm3, ji3⟩ := at_T24 G2.out i (by omega) (by omega)
          cases e2
          simp only [Int.toNat_natCast] at y0 y1 y2 y3
          have z2 := (HB1.out.cell (World.block_lt_of_cell? w0 _ y2)).trans y2
          have z3 := (HB1.out.cell (World.block_lt_of_cell? w0 _ y3)).trans y3
          have e2 := z2.symm.trans x2'
          have e3 := z3.symm.trans x3'
          simp only [Option.some.injEq, Value.slice.injEq, true_and] at e2 e3
          obtain ⟨rfl, rfl⟩ := e2
          obtain ⟨rfl, rfl⟩ := e3
          exact ⟨_, k24_mk w0 (rd_T24 la i) mm2 ji2 mm3 ji3, rfl⟩)
        clear ll2' hi2' ll3' hi3'
        go_wp2_with fail
        clear x0' x1' x2' x3'
        obtain ⟨va, hK, rfl⟩ := HKe.out
        refine (HL.out i hlt w0 _ _ [_, _, _, _] _ g hK (below_alloc HB1.out _) HG.out (blk_alloc HA1.out _)).mono ?_
        rintro e w2 ⟨rfl, hb1, ha1, hk1⟩
        rw [← walkL_take step la i hlt] at ha1
        have HB2 := Aside0.mk hb1
        have HA2 := Aside0.mk ha1
        have HX2 := Aside0.mk (hk1.blk (blk_alloc HX1.out _) (by have := hlt0.out; omega) (by simp))
        have HK2 := Aside0.mk (HK1.out.trans ((KeepBut.of_below (below_alloc (Below.refl _ _) _) g none).trans hk1 (.inl rfl)) (.inl rfl))
        clear hb1 ha1 hk1 HK1 HX1 HA1 HB1
        go_wp2_with fail
        go_roundw
        case rel => exact ⟨i + 1, by go_num, ⟨hlt⟩, HB2, HA2, HX2, HK2⟩
        case measure => simp [intOf]; omega
      · have hltb : decide ((i : Int) < (la.length : Int)) = false := decide_eq_false (by omega)
        have HA3 : Aside0 (At wr g (walkL step la (wrap64 (d + 1)) (step v ⟨k, t, la, ua⟩ d))) := ⟨by have := HA1.out; rw [List.take_of_length_le (by omega)] at this; exact this⟩
        have hx3 : wr.cell? ⟨W.heap.size, 3, none⟩ = some (.slice A3 ua.length c3) := (blk_cell HX1.out 3).trans rfl
        clear HA1
        go_wp2_with fail
        clear hx3 hltb
        go_loopw [30] (fun v30 wq => ∃ i : Nat, v30 = .int .i64 i ∧ Aside0 (i ≤ ua.length) ∧ Aside0 (Below w0.heap.size w0 wq) ∧ Aside0 (At wq g (walkL step (ua.take i) (wrap64 (d + 1)) (walkL step la (wrap64 (d + 1)) (step v ⟨k, t, la, ua⟩ d)))) ∧ Aside0 (wq.heap[W.heap.size]? = some (.cells #[.int .i64 k, .string t, .slice A2 la.length c2, .slice A3 ua.length c3] 24 (0, 0))) ∧ Aside0 (KeepBut W wq g none)) (fun v30 wq => ua.length - (intOf v30).toNat)
        case atStart => exact ⟨0, rfl, ⟨Nat.zero_le _⟩, HB1, HA3, HX1, HK1⟩
        case round =>
          clear HB1 HA3 HX1 HK1 hi hlt
          obtain ⟨i, rfl, hi, HB1, HA1, HX1, HK1⟩ := hrel
          by_cases hlt : i < ua.length
          · have hlt' : ((i : Int) < (ua.length : Int)) := by omega
            have hltb : decide ((i : Int) < (ua.length : Int)) = true := decide_eq_true hlt'
            obtain ⟨ad, B2, d2, B3, d3, e1, x0, x1, x2, x3, ll2, hi2, ll3, hi3⟩ := at_T24 (Kd.C_below G3.out HB.out) i (by omega) (by omega)
            cases e1
            have KX := HK1.out
            have hy0 := (HB1.out)
            obtain ⟨ad', B2', d2', B3', d3', e1', x0', x1', x2', x3', ll2', hi2', ll3', hi3'⟩ := at_T24 (Kd.C_below G3.out HB1.out) i (by omega) (by omega)
            cases e1'
            simp only [Int.toNat_natCast] at x0' x1' x2' x3'
            clear x0 x1 x2 x3 ll2 hi2 ll3 hi3 hy0 KX
            have HKe := Aside0.mk (show ∃ va, k24.K w0 (rd_T24 ua i) va ∧ va = [.int .i64 (rd_T24 ua i).f0, .string (rd_T24 ua i).f1, .slice B2' (rd_T24 ua i).f2.length d2', .slice B3' (rd_T24 ua i).f3.length d3'] from by
              obtain ⟨ad2, C2, f2, C3, f3, e2, y0, y1, y2, y3, mm2, ji2, mm3, ji3⟩ := at_T24 G3.out i (by omega) (by omega)
              cases e2
              simp only [Int.toNat_natCast] at y0 y1 y2 y3
              have z2 := (HB1.out.cell (World.block_lt_of_cell? w0 _ y2)).trans y2
              have z3 := (HB1.out.cell (World.block_lt_of_cell? w0 _ y3)).trans y3
              have e2 := z2.symm.trans x2'
              have e3 := z3.symm.trans x3'
              simp only [Option.some.injEq, Value.slice.injEq, true_and] at e2 e3
              obtain ⟨rfl, rfl⟩ := e2
              obtain ⟨rfl, rfl⟩ := e3
              exact ⟨_, k24_mk w0 (rd_T24 ua i) mm2 ji2 mm3 ji3, rfl⟩)
            clear ll2' hi2' ll3' hi3'
            go_wp2_with fail
            clear x0' x1' x2' x3'
            obtain ⟨va, hK, rfl⟩ := HKe.out
            refine (HU.out i hlt w0 _ _ [_, _, _, _] _ g hK (below_alloc HB1.out _) HG.out (blk_alloc HA1.out _)).mono ?_
            rintro e w2 ⟨rfl, hb1, ha1, hk1⟩
            rw [← walkL_take step ua i hlt] at ha1
            have HB2 := Aside0.mk hb1
            have HA2 := Aside0.mk ha1
            have HX2 := Aside0.mk (hk1.blk (blk_alloc HX1.out _) (by have := hlt0.out; omega) (by simp))
            have HK2 := Aside0.mk (HK1.out.trans ((KeepBut.of_below (below_alloc (Below.refl _ _) _) g none).trans hk1 (.inl rfl)) (.inl rfl))
            clear hb1 ha1 hk1 HK1 HX1 HA1 HB1
            go_wp2_with fail
            go_roundw
            case rel => exact ⟨i + 1, by go_num, ⟨hlt⟩, HB2, HA2, HX2, HK2⟩
            case measure => simp [intOf]; omega
          · have hltb : decide ((i : Int) < (ua.length : Int)) = false := decide_eq_false (by omega)
            have HA3 : Aside0 (At wr g (walkF step ⟨k, t, la, ua⟩ d v)) := ⟨by
              have := HA1.out
              rw [List.take_of_length_le (by omega)] at this
              simpa only [walkF] using this⟩
            clear HA1
            go_wp2_with fail
            go_end0
            exact ⟨rfl, HB1.out, HA3.out, HK1.out⟩


theorem datum_Depth_entry (args : Array Value) (w : World) : (callFunc 23 args).run Try.prog w = .ok (.enter 23 args) w := by
  have h1 : ¬ Try.f23.name = "runtime.NumGoroutine" := of_decide_eq_true (by kernel_rfl)
  have h2 : ¬ Try.f23.body = none := fun h => by have : Try.f23.body.isNone = false := by kernel_rfl
                                                 rw [h] at this; cases this
  simp [callFunc, Try.func23, h1, h2, Sem.run]
theorem datum_Size_entry (args : Array Value) (w : World) : (callFunc 24 args).run Try.prog w = .ok (.enter 24 args) w := by
  have h1 : ¬ Try.f24.name = "runtime.NumGoroutine" := of_decide_eq_true (by kernel_rfl)
  have h2 : ¬ Try.f24.body = none := fun h => by have : Try.f24.body.isNone = false := by kernel_rfl
                                                 rw [h] at this; cases this
  simp [callFunc, Try.func24, h1, h2, Sem.run]

def datum_DepthB (x : S24) : Int := if rightB x 64 = true then walkF depthStep x 1 0 else 0
set_option maxHeartbeats 2000000 in
set_option maxRecDepth 100000 in
theorem datum_Depth_any (x : S24) (hfit : Fit x) (va : List Value) (w : World) (hK : k24.K w x va) : Calls Try.prog 11 #[.agg va.toArray] w fun e w' => e = .returned (.int .i64 (datum_DepthB x)) ∧ Below w.heap.size w w' := by
  obtain ⟨A2, c2, A3, c3, rfl, l2, g2, l3, g3⟩ := k24_open hK
  have hu24 := Try.underlying24
  have hmf : ∀ (fn : Fn) (first cap : Array Value) (w : World), (Instr.makeFunc fn first cap).run Try.prog w = .ok (.func fn first cap) w := fun _ _ _ _ => rfl
  have HK := Aside0.mk hK
  have G2 := Aside0.mk g2
  have G3 := Aside0.mk g3
  have L2 := Aside0.mk l2
  have L3 := Aside0.mk l3
  clear hK g2 g3 l2 l3
  show Calls Try.prog 11 #[.agg #[.int .i64 x.f0, .string x.f1, .slice A2 x.f2.length c2, .slice A3 x.f3.length c3]] w _
  have hcan : Aside0 (datum_Can.f x.f0 x.f1 x.f2 x.f3 = some (rightB x 64)) := ⟨by
    obtain ⟨k, t, l, u⟩ := x
    simp only [datum_Can.f, datum_right.f]
    rw [if_pos ⟨of_fit hfit, by omega, by omega⟩]
    rfl⟩
  have HB0 := Aside0.mk (below_alloc (Below.refl w.heap.size w) (.cells #[.int .i64 x.f0, .string x.f1, .slice A2 x.f2.length c2, .slice A3 x.f3.length c3] 24))
  go_enter Try.func11, Try.ntmps11
  go_wp2_with fail
  refine (datum_Can.calls x.f0 x.f1 _ _ x.f2 _ _ x.f3 _ _ (Kd.C_alloc G2.out _) L2.out (Kd.C_alloc G3.out _) L3.out hcan.out).mono ?_
  rintro e w1 ⟨rfl, hb⟩
  have HB := Aside0.mk (below_step HB0.out hb)
  have HX := Aside0.mk (blk_below (blk_new w _) hb)
  clear hb
  cases hr : rightB x 64 with
  | false =>
    have hz : Aside0 (datum_DepthB x = 0) := ⟨by unfold datum_DepthB; rw [hr, if_neg (by simp)]⟩
    clear hr
    go_wp2_with fail
    go_ret
    exact ⟨by rw [hz.out]; rfl, HB.out⟩
  | true =>
    have hz : Aside0 (datum_DepthB x = walkF depthStep x 1 0) := ⟨by unfold datum_DepthB; rw [hr, if_pos rfl]⟩
    clear hr
    have hx0 : ∀ o : Obj, (w1.alloc o).cell? ⟨w.heap.size, 0, none⟩ = some (.int .i64 x.f0) := fun o => (blk_cell (blk_alloc HX.out o) 0).trans rfl
    have hx1 : ∀ o : Obj, (w1.alloc o).cell? ⟨w.heap.size, 1, none⟩ = some (.string x.f1) := fun o => (blk_cell (blk_alloc HX.out o) 1).trans rfl
    have hx2 : ∀ o : Obj, (w1.alloc o).cell? ⟨w.heap.size, 2, none⟩ = some (.slice A2 x.f2.length c2) := fun o => (blk_cell (blk_alloc HX.out o) 2).trans rfl
    have hx3 : ∀ o : Obj, (w1.alloc o).cell? ⟨w.heap.size, 3, none⟩ = some (.slice A3 x.f3.length c3) := fun o => (blk_cell (blk_alloc HX.out o) 3).trans rfl
    go_wp2_with fail
    clear hx0 hx1 hx2 hx3
    refine (walk_at 23 depthStep (fun args W => datum_Depth_entry args W) depth_does _ x (Nat.le_refl _) w1 1 0 [_, _, _, _] _ w1.heap.size (k24.K_below HB.out HK.out) (below_alloc (Below.refl _ _) _) (Nat.le_refl _) (blk_new w1 _)).mono ?_
    rintro e w2 ⟨rfl, hb1, ha1, hk1⟩
    have HB2 := Aside0.mk (below_step HB.out hb1)
    have HA2 := Aside0.mk ha1
    have hc2 := at_cell ha1
    clear hb1 ha1 hk1
    go_wp2_with fail
    go_ret
    exact ⟨by rw [hz.out]; rfl, HB2.out⟩

def datum_Depth.f (a0_0 : Int) (a0_1 : ByteArray) (l0_2 : List (S24)) (l0_3 : List (S24)) : Option (Int) :=
  if fitB ⟨a0_0, a0_1, l0_2, l0_3⟩ = true then some (datum_DepthB ⟨a0_0, a0_1, l0_2, l0_3⟩) else none
theorem datum_Depth.calls (a0_0 : Int) (a0_1 : ByteArray) (A0_2 : Option Addr) (c0_2 : Nat) (l0_2 : List (S24)) (A0_3 : Option Addr) (c0_3 : Nat) (l0_3 : List (S24)) (r : Int) (w : World) (hr0_2 : Kd.C k24 w A0_2 l0_2.length l0_2) (hc0_2 : l0_2.length ≤ c0_2) (hr0_3 : Kd.C k24 w A0_3 l0_3.length l0_3) (hc0_3 : l0_3.length ≤ c0_3) (h : datum_Depth.f a0_0 a0_1 l0_2 l0_3 = some r) :
    Calls Try.prog 11 #[.agg #[.int .i64 a0_0, .string a0_1, .slice A0_2 l0_2.length c0_2, .slice A0_3 l0_3.length c0_3]] w fun e w' => e = .returned (.int .i64 r) ∧ Below w.heap.size w w' := by
  unfold datum_Depth.f at h
  by_cases hc : fitB ⟨a0_0, a0_1, l0_2, l0_3⟩ = true
  · rw [if_pos hc] at h
    have hr : datum_DepthB ⟨a0_0, a0_1, l0_2, l0_3⟩ = r := Option.some.inj h
    subst hr
    exact datum_Depth_any ⟨a0_0, a0_1, l0_2, l0_3⟩ (fit_of hc) _ w (k24_mk w ⟨a0_0, a0_1, l0_2, l0_3⟩ hc0_2 hr0_2 hc0_3 hr0_3)
  · rw [if_neg hc] at h; cases h

def datum_SizeB (x : S24) : Int := if rightB x 64 = true then walkF (fun v _ _ => wrap64 (v + 1)) x 1 0 else 0
set_option maxHeartbeats 2000000 in
set_option maxRecDepth 100000 in
theorem datum_Size_any (x : S24) (hfit : Fit x) (va : List Value) (w : World) (hK : k24.K w x va) : Calls Try.prog 13 #[.agg va.toArray] w fun e w' => e = .returned (.int .i64 (datum_SizeB x)) ∧ Below w.heap.size w w' := by
  obtain ⟨A2, c2, A3, c3, rfl, l2, g2, l3, g3⟩ := k24_open hK
  have hu24 := Try.underlying24
  have hmf : ∀ (fn : Fn) (first cap : Array Value) (w : World), (Instr.makeFunc fn first cap).run Try.prog w = .ok (.func fn first cap) w := fun _ _ _ _ => rfl
  have HK := Aside0.mk hK
  have G2 := Aside0.mk g2
  have G3 := Aside0.mk g3
  have L2 := Aside0.mk l2
  have L3 := Aside0.mk l3
  clear hK g2 g3 l2 l3
  show Calls Try.prog 13 #[.agg #[.int .i64 x.f0, .string x.f1, .slice A2 x.f2.length c2, .slice A3 x.f3.length c3]] w _
  have hcan : Aside0 (datum_Can.f x.f0 x.f1 x.f2 x.f3 = some (rightB x 64)) := ⟨by
    obtain ⟨k, t, l, u⟩ := x
    simp only [datum_Can.f, datum_right.f]
    rw [if_pos ⟨of_fit hfit, by omega, by omega⟩]
    rfl⟩
  have HB0 := Aside0.mk (below_alloc (Below.refl w.heap.size w) (.cells #[.int .i64 x.f0, .string x.f1, .slice A2 x.f2.length c2, .slice A3 x.f3.length c3] 24))
  go_enter Try.func13, Try.ntmps13
  go_wp2_with fail
  refine (datum_Can.calls x.f0 x.f1 _ _ x.f2 _ _ x.f3 _ _ (Kd.C_alloc G2.out _) L2.out (Kd.C_alloc G3.out _) L3.out hcan.out).mono ?_
  rintro e w1 ⟨rfl, hb⟩
  have HB := Aside0.mk (below_step HB0.out hb)
  have HX := Aside0.mk (blk_below (blk_new w _) hb)
  clear hb
  cases hr : rightB x 64 with
  | false =>
    have hz : Aside0 (datum_SizeB x = 0) := ⟨by unfold datum_SizeB; rw [hr, if_neg (by simp)]⟩
    clear hr
    go_wp2_with fail
    go_ret
    exact ⟨by rw [hz.out]; rfl, HB.out⟩
  | true =>
    have hz : Aside0 (datum_SizeB x = walkF (fun v _ _ => wrap64 (v + 1)) x 1 0) := ⟨by unfold datum_SizeB; rw [hr, if_pos rfl]⟩
    clear hr
    have hx0 : ∀ o : Obj, (w1.alloc o).cell? ⟨w.heap.size, 0, none⟩ = some (.int .i64 x.f0) := fun o => (blk_cell (blk_alloc HX.out o) 0).trans rfl
    have hx1 : ∀ o : Obj, (w1.alloc o).cell? ⟨w.heap.size, 1, none⟩ = some (.string x.f1) := fun o => (blk_cell (blk_alloc HX.out o) 1).trans rfl
    have hx2 : ∀ o : Obj, (w1.alloc o).cell? ⟨w.heap.size, 2, none⟩ = some (.slice A2 x.f2.length c2) := fun o => (blk_cell (blk_alloc HX.out o) 2).trans rfl
    have hx3 : ∀ o : Obj, (w1.alloc o).cell? ⟨w.heap.size, 3, none⟩ = some (.slice A3 x.f3.length c3) := fun o => (blk_cell (blk_alloc HX.out o) 3).trans rfl
    go_wp2_with fail
    clear hx0 hx1 hx2 hx3
    refine (walk_at 24 (fun v _ _ => wrap64 (v + 1)) (fun args W => datum_Size_entry args W) size_does _ x (Nat.le_refl _) w1 1 0 [_, _, _, _] _ w1.heap.size (k24.K_below HB.out HK.out) (below_alloc (Below.refl _ _) _) (Nat.le_refl _) (blk_new w1 _)).mono ?_
    rintro e w2 ⟨rfl, hb1, ha1, hk1⟩
    have HB2 := Aside0.mk (below_step HB.out hb1)
    have HA2 := Aside0.mk ha1
    have hc2 := at_cell ha1
    clear hb1 ha1 hk1
    go_wp2_with fail
    go_ret
    exact ⟨by rw [hz.out]; rfl, HB2.out⟩

def datum_Size.f (a0_0 : Int) (a0_1 : ByteArray) (l0_2 : List (S24)) (l0_3 : List (S24)) : Option (Int) :=
  if fitB ⟨a0_0, a0_1, l0_2, l0_3⟩ = true then some (datum_SizeB ⟨a0_0, a0_1, l0_2, l0_3⟩) else none
theorem datum_Size.calls (a0_0 : Int) (a0_1 : ByteArray) (A0_2 : Option Addr) (c0_2 : Nat) (l0_2 : List (S24)) (A0_3 : Option Addr) (c0_3 : Nat) (l0_3 : List (S24)) (r : Int) (w : World) (hr0_2 : Kd.C k24 w A0_2 l0_2.length l0_2) (hc0_2 : l0_2.length ≤ c0_2) (hr0_3 : Kd.C k24 w A0_3 l0_3.length l0_3) (hc0_3 : l0_3.length ≤ c0_3) (h : datum_Size.f a0_0 a0_1 l0_2 l0_3 = some r) :
    Calls Try.prog 13 #[.agg #[.int .i64 a0_0, .string a0_1, .slice A0_2 l0_2.length c0_2, .slice A0_3 l0_3.length c0_3]] w fun e w' => e = .returned (.int .i64 r) ∧ Below w.heap.size w w' := by
  unfold datum_Size.f at h
  by_cases hc : fitB ⟨a0_0, a0_1, l0_2, l0_3⟩ = true
  · rw [if_pos hc] at h
    have hr : datum_SizeB ⟨a0_0, a0_1, l0_2, l0_3⟩ = r := Option.some.inj h
    subst hr
    exact datum_Size_any ⟨a0_0, a0_1, l0_2, l0_3⟩ (fit_of hc) _ w (k24_mk w ⟨a0_0, a0_1, l0_2, l0_3⟩ hc0_2 hr0_2 hc0_3 hr0_3)
  · rw [if_neg hc] at h; cases h

end Go.Proofs.Ytjphkokfleoinaa.D
