/- number.divide by several limbs. -/
import Derived.Test.YtlnneellihkdkaaDoorHDivC
namespace Go.Proofs.YtlnneellihkdkaaDoor.D
open Go Go.Proofs Go.RowKit Go.Shelf Go.Proofs.YtlnneellihkdkaaDoorW.PrintWords Go.Proofs.YtlnneellihkdkaaDoorW.PrintLast Go.Proofs.YtlnneellihkdkaaDoorW.PrintMore
attribute [local go_sem] Oper.semAt_some
set_option linter.unusedVariables false
set_option linter.unusedSimpArgs false

set_option maxRecDepth 100000 in
set_option maxHeartbeats 4000000 in
theorem divide_in (l b : List Int) (hok : OkB G l) (hb : OkB G b) (hlen : l.length ≤ 100000) (hb2 : 2 ≤ b.length) (hlb : b.length ≤ 100000) (hpos : 0 < vB G b) (A A2 : Option Addr) (c c2 : Nat) (w : World) (hC : Kd.C (Kd.int .u64) w A l.length l) (hc : l.length ≤ c) (hC2 : Kd.C (Kd.int .u64) w A2 b.length b) (hc2 : b.length ≤ c2) :
    CallsIn Fence.wide 8 Tryd.prog 61 #[.slice A l.length c, .slice A2 b.length c2] w fun e w' => ∃ q rs g A' c', e = .returned (.tuple #[.slice (some ⟨g, 0, none⟩) l.length l.length, .slice A' rs.length c']) ∧ Kd.V (Kd.int .u64) 65 w' 0 (fun k => w.heap.size ≤ k) (.slice (some ⟨g, 0, none⟩) l.length l.length) q ∧ Kd.V (Kd.int .u64) 65 w' 0 (fun k => w.heap.size ≤ k) (.slice A' rs.length c') rs ∧ OkB G rs ∧ (q, vB G rs) = (downTo (limbF l hok) l.length l.length).foldl (smStep (vB G b)) (List.replicate l.length 0, 0) ∧ rs.length ≤ l.length ∧ Below w.heap.size w w' := by
  have hmk := make_u64 l.length (by omega)
  have hb1 : ((b.length : Int) == 1) = false := by simp; omega
  have HC := Aside0.mk hC
  have HC2 := Aside0.mk hC2
  clear hC hC2
  refine callsIn_of_wp_marks Tryd.func61 rfl trivial ?_ rfl
  simp only [Tryd.ntmps61, List.size_toArray, List.length_cons, List.length_nil, Nat.reduceAdd, Nat.reduceSub, Array.replicate_succ, Array.replicate_zero, List.push_toArray, List.append_toArray, List.nil_append, List.cons_append]
  gi_wp2_with (refine ⟨trivial, ?_⟩; gi_at_call 52; refine (back_in Fence.wide 7 trivial rfl _ _ _ _).mono ?_; rintro e w' ⟨rfl, rfl⟩)
  simp only [Nat.add_assoc, Nat.reduceAdd]
  have hBL : Below w.heap.size w (((((w.alloc (.cells #[.slice A2 b.length c2] 43)).alloc (.cells (nums .u64 (List.replicate l.length 0)).toArray 65)).alloc (.cells #[.slice (some ⟨w.heap.size + 1, 0, none⟩) l.length l.length] 43)).alloc (.cells #[.slice none 0 0] 43)).alloc (.cells #[.slice A l.length c] 43)) := (((((Below.refl _ w).alloc (Nat.le_refl _) _).alloc (by simp) _).alloc (by simp; omega) _).alloc (by simp; omega) _).alloc (by simp; omega) _
  have h0 := (blk_alloc (blk_alloc (blk_alloc (blk_alloc (blk_new w (.cells #[.slice A2 b.length c2] 43)) (.cells (nums .u64 (List.replicate l.length 0)).toArray 65)) (.cells #[.slice (some ⟨w.heap.size + 1, 0, none⟩) l.length l.length] 43)) (.cells #[.slice none 0 0] 43)) (.cells #[.slice A l.length c] 43))
  have h1 := (blk_alloc (blk_alloc (blk_alloc (blk_new (w.alloc (.cells #[.slice A2 b.length c2] 43)) (.cells (nums .u64 (List.replicate l.length 0)).toArray 65)) (.cells #[.slice (some ⟨w.heap.size + 1, 0, none⟩) l.length l.length] 43)) (.cells #[.slice none 0 0] 43)) (.cells #[.slice A l.length c] 43))
  have h2 := (blk_alloc (blk_alloc (blk_new ((w.alloc (.cells #[.slice A2 b.length c2] 43)).alloc (.cells (nums .u64 (List.replicate l.length 0)).toArray 65)) (.cells #[.slice (some ⟨w.heap.size + 1, 0, none⟩) l.length l.length] 43)) (.cells #[.slice none 0 0] 43)) (.cells #[.slice A l.length c] 43))
  have h3 := (blk_alloc (blk_new (((w.alloc (.cells #[.slice A2 b.length c2] 43)).alloc (.cells (nums .u64 (List.replicate l.length 0)).toArray 65)).alloc (.cells #[.slice (some ⟨w.heap.size + 1, 0, none⟩) l.length l.length] 43)) (.cells #[.slice none 0 0] 43)) (.cells #[.slice A l.length c] 43))
  have h4 := (blk_new ((((w.alloc (.cells #[.slice A2 b.length c2] 43)).alloc (.cells (nums .u64 (List.replicate l.length 0)).toArray 65)).alloc (.cells #[.slice (some ⟨w.heap.size + 1, 0, none⟩) l.length l.length] 43)).alloc (.cells #[.slice none 0 0] 43)) (.cells #[.slice A l.length c] 43))
  simp only [World.size_alloc, Nat.add_assoc, Nat.reduceAdd] at h1 h2 h3 h4
  have hsL : (((((w.alloc (.cells #[.slice A2 b.length c2] 43)).alloc (.cells (nums .u64 (List.replicate l.length 0)).toArray 65)).alloc (.cells #[.slice (some ⟨w.heap.size + 1, 0, none⟩) l.length l.length] 43)).alloc (.cells #[.slice none 0 0] 43)).alloc (.cells #[.slice A l.length c] 43)).heap.size = w.heap.size + 5 := by simp
  have hAL : l.length = 0 ∨ ∃ ad, A = some ad ∧ ad.block < w.heap.size ∧ ∀ j, j < l.length → (((((w.alloc (.cells #[.slice A2 b.length c2] 43)).alloc (.cells (nums .u64 (List.replicate l.length 0)).toArray 65)).alloc (.cells #[.slice (some ⟨w.heap.size + 1, 0, none⟩) l.length l.length] 43)).alloc (.cells #[.slice none 0 0] 43)).alloc (.cells #[.slice A l.length c] 43)).cell? (ad.add j) = some (.int .u64 (l.getD j 0)) := by
    rcases Nat.eq_zero_or_pos l.length with hz | hpos
    · exact .inl hz
    · obtain ⟨ad, e, hcells⟩ := C_cells HC.out hpos
      have h : ad.block < w.heap.size := by have := World.block_lt_of_cell? w _ (hcells 0 hpos); rwa [add_block'] at this
      exact .inr ⟨ad, e, h, fun j hj => (hBL.cell (p := ad.add j) (by rw [add_block']; exact h)).trans (hcells j hj)⟩
  generalize (((((w.alloc (.cells #[.slice A2 b.length c2] 43)).alloc (.cells (nums .u64 (List.replicate l.length 0)).toArray 65)).alloc (.cells #[.slice (some ⟨w.heap.size + 1, 0, none⟩) l.length l.length] 43)).alloc (.cells #[.slice none 0 0] 43)).alloc (.cells #[.slice A l.length c] 43)) = wL at *
  clear hmk HC
  have hT0 : DvJ w wL b l.length 0 (List.replicate l.length 0, 0) wL := ⟨h1, h2, ⟨[], none, 0, h3, Nat.le_refl _, C_of_cells (by simp) (fun h => by simp at h), (fun _ e => by cases e), (fun x hx => by simp at hx), rfl, Nat.le_refl _⟩, KpS.refl _ _ _, Nat.le_refl _, hBL, by simp, Int.le_refl _, hpos⟩
  have hf : ∀ j, j < l.length → (limbF l hok j).1.1 = j ∧ ((limbF l hok j).1.2 : Int) = l.getD j 0 := fun j hj => by
    unfold limbF
    rw [dif_pos hj]
    exact ⟨rfl, by have := getD_ok (by decide : 1 ≤ G) hok j; show ((l.getD j 0).toNat : Int) = _; omega⟩
  refine wpIn_rangeFunc_ownG rfl (by decide) (gf := 69) (lb := #[.pointer (some ⟨w.heap.size + 4, 0, none⟩)]) rfl trivial (enters_of Tryd.func69 (by kernel_rfl) rfl)
    (backn_stops Fence.wide 7 trivial rfl (by decide) (w.heap.size + 4) (w.heap.size + 1) (max l.length 1) l.length c A (limbF l hok) (fun j hj => (hf j hj).1) (by omega) wL (by omega) (by rw [Lib.cell_of_heap h4]; rfl) (hAL.imp id (fun ⟨ad, e, h, hc⟩ => ⟨ad, e, by omega, by omega, fun j hj => by rw [(hf j hj).2]; exact hc j hj⟩)))
    KpS.trans (fun W l o o' hl ho hc hk => KpS.put (w := wL) (by omega) (by omega) W l o o' hl ho hc hk) (Below.refl _ _) (fun _ => rfl)
    (fun pre W => pre.length ≤ l.length ∧ DvJ w wL b l.length pre.length (pre.foldl (smStep (vB G b)) (List.replicate l.length 0, 0)) W) (fun _ _ _ => False)
    (fun pre W W' row h hg hr => ⟨h.1, DvJ_own w wL b l.length _ (by have := h.1; omega) hsL _ W W' row h.2 hg hr⟩) (fun _ _ _ _ _ hs _ _ => hs) ⟨Nat.zero_le _, hT0⟩
    (fun x => { tmps := #[Value.slice A l.length c, Value.slice A2 b.length c2, undef, Value.pointer (some { block := w.heap.size, off := 0 }), Value.slice none 0 0, Value.slice none 0 0, undef, undef, Value.pointer (some { block := w.heap.size + 2, off := 0 }), Value.pointer (some { block := w.heap.size + 3, off := 0 }), .int .i64 (x.1.1 : Int), .int .u64 (x.1.2 : Int), undef, undef, undef, undef, Value.slice A2 b.length c2, Value.int IntKind.i64 ↑b.length, Value.bool false, undef, undef, undef, undef, undef, undef, undef, undef, undef, undef, undef, Value.slice A l.length c, Value.int IntKind.i64 ↑l.length, Value.slice (some { block := w.heap.size + 1, off := 0 }) l.length l.length, Value.slice A l.length c, Value.func (Fn.func 69) #[] #[Value.pointer (some { block := w.heap.size + 4, off := 0 })], .int .i64 (x.1.1 : Int), .int .u64 (x.1.2 : Int), undef, undef, undef, undef, undef, undef, undef, undef, undef, undef, undef, undef, undef, undef, undef, undef, undef, undef, undef, undef, undef, undef, undef, undef, undef, undef, undef, undef, undef, undef, undef, undef, undef, undef, undef, undef], defers := [] }) ?assign ?body ?done ?stop
  case assign =>
    intro l x W K hK
    gi_wp2
    exact hK
  case stop =>
    rintro D c pre W _ _ h _
    exact h.elim
  case body =>
    intro lp pre x W hJ' hltp
    obtain ⟨_, hJ⟩ := hJ'
    have hx := x.2
    have e1 : (pre ++ [x]).foldl (smStep (vB G b)) (List.replicate l.length 0, 0) = smStep (vB G b) (pre.foldl (smStep (vB G b)) (List.replicate l.length 0, 0)) x := by simp
    have hpost : ∀ a' W', KeepsFrom wL.heap.size W W' ∧ KpS (w.heap.size + 1) (w.heap.size + 4) W W' ∧ DvJ w wL b l.length (pre.length + 1) (smStep (vB G b) (pre.foldl (smStep (vB G b)) (List.replicate l.length 0, 0)) x) W' → ownPostG wL.heap.size (KpS (w.heap.size + 1) (w.heap.size + 4)) (fun pre W => pre.length ≤ l.length ∧ DvJ w wL b l.length pre.length (pre.foldl (smStep (vB G b)) (List.replicate l.length 0, 0)) W) (fun _ _ _ => False) (pre ++ [x]) W Exit.normal a' W' := fun a' W' h => by
      show _ ∧ _ ∧ _ ∧ DvJ w wL b l.length _ _ W'
      rw [e1]
      exact ⟨h.1, h.2.1, by simp; omega, by simpa using h.2.2⟩
    generalize (pre.foldl (smStep (vB G b)) (List.replicate l.length 0, 0)) = st at hJ hpost
    have HPOST := Aside0.mk hpost
    clear hpost e1
    obtain ⟨rs, A3, c3, hr1, hr2, hr3, hr4, hr5, hr6, hr7⟩ := hJ.r
    have hrl : rs.length ≤ 100000 := by omega
    obtain ⟨g, cap, Wa, hrun, ha1, ha2, ha3, ha4⟩ := append_front (x.1.2 : Int) rs A3 c3 W hr3 (by omega)
    have c9 := blk_cell (blk_alloc hr1 (.cells #[.int .u64 (x.1.2 : Int)] 65)) 0
    have hr1a := blk_below hr1 ha4
    have c9a := blk_cell hr1a 0
    have f9a := blk_frozen hr1a 0
    simp only [List.getElem?_toArray, List.getElem?_cons_zero] at c9 c9a
    have HRUN := Aside0.mk hrun
    clear hrun
    gi_wp2_with (gi_at_builtin; refine wpListIn_append_run rfl (.tmp 38) (.tmp 39) 43 rfl rfl rfl HRUN.out ?_)
    have hszW : w.heap.size + 5 ≤ W.heap.size := by have := hJ.sz; omega
    have hkb : KeepBut W (Wa.setCell ⟨w.heap.size + 3, 0, none⟩ (.slice (some ⟨g, 0, none⟩) (rs.length + 1) cap)) (w.heap.size + 3) (some (w.heap.size + 1)) :=
      ⟨by simpa using ha4.size, fun i hi h3 _ => (Below.heap_setCell _ _ _ _ h3).trans (ha4.block i hi)⟩
    have hbw : Below w.heap.size W (Wa.setCell ⟨w.heap.size + 3, 0, none⟩ (.slice (some ⟨g, 0, none⟩) (rs.length + 1) cap)) := (ha4.mono (by omega)).setCell (p := ⟨w.heap.size + 3, 0, none⟩) (Nat.le_add_right _ _) _
    have hq1 := blk_far (p := ⟨w.heap.size + 3, 0, none⟩) (blk_below hJ.q ha4) (by simp) (.slice (some ⟨g, 0, none⟩) (rs.length + 1) cap)
    have hv1 := blk_far (p := ⟨w.heap.size + 3, 0, none⟩) (blk_below hJ.v ha4) (by simp) (.slice (some ⟨g, 0, none⟩) (rs.length + 1) cap)
    have hr1b := blk_put hr1a 0 (.slice (some ⟨g, 0, none⟩) (rs.length + 1) cap) rfl
    have hb0 : (Wa.setCell ⟨w.heap.size + 3, 0, none⟩ (.slice (some ⟨g, 0, none⟩) (rs.length + 1) cap)).heap[w.heap.size]? = some (.cells #[.slice A2 b.length c2] 43 (0, 0)) := (Below.heap_setCell _ _ _ _ (by simp)).trans ((ha4.block _ (by omega)).trans ((hJ.kp.1 _ (by omega)).trans h0))
    have hc1 : Kd.C (Kd.int .u64) (Wa.setCell ⟨w.heap.size + 3, 0, none⟩ (.slice (some ⟨g, 0, none⟩) (rs.length + 1) cap)) (some ⟨g, 0, none⟩) ((x.1.2 : Int) :: rs).length ((x.1.2 : Int) :: rs) := C_step ha1 (by simp; omega) (fun ad e _ _ => by cases e; exact Below.heap_setCell _ _ _ _ (by simp; omega))
    obtain ⟨R, hR⟩ : ∃ R, R = vB G ((x.1.2 : Int) :: rs) := ⟨_, rfl⟩
    have hokR : OkB G ((x.1.2 : Int) :: rs) := fun z hz => by
      rcases List.mem_cons.1 hz with rfl | hz
      · exact ⟨by omega, by have e : G = 1000000000 := rfl; omega⟩
      · exact hr5 z hz
    have hR2 : R = st.2 * 1000000000 + (x.1.2 : Int) := by
      rw [hR, vB, hr6, show G = 1000000000 from rfl, Int.mul_comm 1000000000]; omega
    obtain ⟨D, hD⟩ : ∃ D, D = vB G b := ⟨_, rfl⟩
    have hhi := hJ.hi
    have hlo := hJ.lo
    rw [← hD] at hhi
    have hRD : R < D * 1000000000 := by
      have : (st.2 + 1) * 1000000000 ≤ D * 1000000000 := Int.mul_le_mul_of_nonneg_right (by omega) (by omega)
      omega
    have hR0 : 0 ≤ R := by omega
    obtain ⟨Wb, hWb⟩ : ∃ Wb, Wa.setCell ⟨w.heap.size + 3, 0, none⟩ (.slice (some ⟨g, 0, none⟩) (rs.length + 1) cap) = Wb := ⟨_, rfl⟩
    rw [hWb] at hkb hbw hq1 hv1 hr1b hb0 hc1 ⊢
    have hlen1 : ((x.1.2 : Int) :: rs).length = rs.length + 1 := rfl
    have HR := Aside0.mk hR
    have HR2 := Aside0.mk hR2
    have HD := Aside0.mk hD
    have HJ := Aside0.mk hJ
    have HC1 := Aside0.mk hc1
    have HR1B := Aside0.mk hr1b
    have HB0 := Aside0.mk hb0
    have HQ1 := Aside0.mk hq1
    have HV1 := Aside0.mk hv1
    have HKB := Aside0.mk hkb
    have HBW := Aside0.mk hbw
    have HOKR := Aside0.mk hokR
    have ha2' : rs.length + 1 ≤ cap := ha2
    have hgW : W.heap.size ≤ g := ha3
    clear hR hR2 hD hJ hc1 hr1b hb0 hq1 hv1 hkb hbw hokR hWb hr1 hr1a hr3 hr6 ha1 c9 c9a f9a HRUN ha2 ha3 ha4 h1 h2 h3 h4 hT0 hlen1
    gi_loopw [13, 14] (fun lo hi wr => ∃ a z : Int, lo = .int .u64 a ∧ hi = .int .u64 z ∧ 0 ≤ a ∧ a < z ∧ z ≤ 1000000000 ∧ D * a ≤ R ∧ R < D * z ∧ Below Wb.heap.size Wb wr) (fun lo hi _ => (intOf hi - intOf lo).toNat)
    case atStart => exact ⟨0, 1000000000, rfl, rfl, by omega, by omega, by omega, by omega, hRD, Below.refl _ _⟩
    case round =>
      obtain ⟨a, z, rfl, rfl, ha0, haz, hz, hDa, hDz, hBr⟩ := hrel
      by_cases hgt : 1 < z - a
      · have hHR1 := Aside0.mk (blk_below HR1B.out hBr)
        have hHB0 := Aside0.mk (blk_below HB0.out hBr)
        have hHC1 := Aside0.mk (Kd.C_below HC1.out hBr)
        have hszb : w.heap.size ≤ Wb.heap.size := by have := HKB.out.1; omega
        have hHC2 := Aside0.mk (Kd.C_below HC2.out ((HJ.out.bel.trans HBW.out).trans (hBr.mono hszb)))
        have hmid : 0 ≤ (a + z) / 2 ∧ (a + z) / 2 < 1000000000 ∧ a < (a + z) / 2 ∧ (a + z) / 2 < z := by omega
        obtain ⟨mid, hmd⟩ : ∃ mid, mid = (a + z) / 2 := ⟨_, rfl⟩
        have HMD := Aside0.mk hmd
        rw [← hmd] at hmid
        have hfit := fun (t : Bool) (ht : decide (D * mid ≤ R) = t) => fits_calls b ((x.1.2 : Int) :: rs) mid hb HOKR.out hlb (by simp; omega) ⟨hmid.1, hmid.2.1⟩ ⟨w.heap.size, 0, none⟩ ⟨w.heap.size + 3, 0, none⟩ A2 (some ⟨g, 0, none⟩) c2 cap wr (blk_cell hHB0.out 0) (blk_cell hHR1.out 0) hHC2.out hc2 hHC1.out ha2'
        rw [← HD.out, ← HR.out] at hfit
        have HFIT := Aside0.mk hfit
        clear hfit hmd hHR1 hHB0 hHC1 hHC2
        have emid : (a + z) / 2 = mid := HMD.out.symm
        cases hcase : decide (D * mid ≤ R)
        · have HT := Aside0.mk (HFIT.out false hcase)
          rw [hcase] at HT
          have hlt : R < D * mid := by have := of_decide_eq_false hcase; omega
          have HLT := Aside0.mk hlt
          clear hcase hlt HFIT
          gi_wp2_with (refine ⟨trivial, ?_⟩; gi_at_call 75; refine (((callsIn_wide (n := 5)).2 HT.out).inRound lp).mono ?_; rintro e w4 ⟨rfl, hB4⟩)
          have hB5 := hBr.trans (hB4.mono hBr.size)
          go_roundw
          case rel => exact ⟨a, mid, rfl, rfl, ha0, hmid.2.2.1, by omega, hDa, HLT.out, hB5⟩
          case measure => simp [intOf]; omega
        · have HT := Aside0.mk (HFIT.out true hcase)
          rw [hcase] at HT
          have hle : D * mid ≤ R := of_decide_eq_true hcase
          have HLE := Aside0.mk hle
          clear hcase hle HFIT
          gi_wp2_with (refine ⟨trivial, ?_⟩; gi_at_call 75; refine (((callsIn_wide (n := 5)).2 HT.out).inRound lp).mono ?_; rintro e w4 ⟨rfl, hB4⟩)
          have hB5 := hBr.trans (hB4.mono hBr.size)
          go_roundw
          case rel => exact ⟨mid, z, rfl, rfl, hmid.1, hmid.2.2.2, hz, HLE.out, hDz, hB5⟩
          case measure => simp [intOf]; omega
      · obtain rfl : z = a + 1 := by omega
        have hDz' : R < D * a + D := by rw [Int.mul_add, Int.mul_one] at hDz; exact hDz
        have HDZ := Aside0.mk hDz'
        have hszb : w.heap.size ≤ Wb.heap.size := by have := HKB.out.1; omega
        have hxl : x.1.1 < l.length := by have := x.2.2; omega
        have hq2 := blk_below HQ1.out hBr
        have hv2 := blk_below HV1.out hBr
        have hr2 := blk_below HR1B.out hBr
        have hb02 := blk_below HB0.out hBr
        have hc2' := Kd.C_below HC1.out hBr
        have hbel := (HJ.out.bel.trans HBW.out).trans (hBr.mono hszb)
        have hCb := Kd.C_below HC2.out hbel
        have hkb : KeepBut W wr (w.heap.size + 3) (some (w.heap.size + 1)) := ⟨Nat.le_trans HKB.out.1 hBr.size, fun i hi h3 h1 => (hBr.block i (by have := HKB.out.1; omega)).trans (HKB.out.2 i hi h3 h1)⟩
        have c8 := blk_cell hv2 0
        have hl := HJ.out.len
        have cq : wr.cell? ⟨w.heap.size + 1, x.1.1, none⟩ = some (.int .u64 (st.1.getD x.1.1 0)) := by
          rw [blk_cell hq2]
          simp [nums, List.getD_eq_getElem?_getD, List.getElem?_eq_getElem (show x.1.1 < st.1.length by omega)]
        have fq := blk_frozen hq2 x.1.1
        simp only [List.getElem?_toArray, List.getElem?_cons_zero] at c8
        have hi0 : (0 : Int) ≤ (x.1.1 : Int) := by omega
        have hi1 : (x.1.1 : Int) < (l.length : Int) := by omega
        have HQ2 := Aside0.mk hq2
        have HV2 := Aside0.mk hv2
        have HR2' := Aside0.mk hr2
        have HB02 := Aside0.mk hb02
        have HC2' := Aside0.mk hc2'
        have HBEL := Aside0.mk hbel
        have HCB := Aside0.mk hCb
        have HKB2 := Aside0.mk hkb
        clear hq2 hv2 hr2 hb02 hc2' hbel hCb hkb hl hDz hBr hDz' HQ1 HV1 HR1B HB0 HC1 HBW HKB
        gi_wp2
        have hq3 : (wr.setCell ⟨w.heap.size + 1, x.1.1, none⟩ (.int .u64 a)).heap[w.heap.size + 1]? = some (.cells (nums .u64 (st.1.set x.1.1 a)).toArray 65 (0, 0)) := blk_put HQ2.out _ _ (by simp [nums, List.map_set])
        have hv3 := blk_far (p := ⟨w.heap.size + 1, x.1.1, none⟩) HV2.out (by simp) (.int .u64 a)
        have hr3 := blk_far (p := ⟨w.heap.size + 1, x.1.1, none⟩) HR2'.out (by simp) (.int .u64 a)
        have hb3 : (wr.setCell ⟨w.heap.size + 1, x.1.1, none⟩ (.int .u64 a)).heap[w.heap.size]? = some (.cells #[.slice A2 b.length c2] 43 (0, 0)) := blk_far (p := ⟨w.heap.size + 1, x.1.1, none⟩) HB02.out (by simp) _
        have hc3 : Kd.C (Kd.int .u64) (wr.setCell ⟨w.heap.size + 1, x.1.1, none⟩ (.int .u64 a)) (some ⟨g, 0, none⟩) ((x.1.2 : Int) :: rs).length ((x.1.2 : Int) :: rs) := C_step HC2'.out (by simp; omega) (fun ad e _ _ => by cases e; exact Below.heap_setCell _ _ _ _ (by simp; omega))
        have hbel3 : Below w.heap.size w (wr.setCell ⟨w.heap.size + 1, x.1.1, none⟩ (.int .u64 a)) := HBEL.out.setCell (p := ⟨w.heap.size + 1, x.1.1, none⟩) (Nat.le_succ _) _
        have hkb3 : KeepBut W (wr.setCell ⟨w.heap.size + 1, x.1.1, none⟩ (.int .u64 a)) (w.heap.size + 3) (some (w.heap.size + 1)) := ⟨by simpa using HKB2.out.1, fun i hi h3 h1 => (Below.heap_setCell _ _ _ _ (fun e => h1 (by rw [e]))).trans (HKB2.out.2 i hi h3 h1)⟩
        have hcb3 := Kd.C_below HC2.out hbel3
        obtain ⟨Wc, hWc⟩ : ∃ Wc, wr.setCell ⟨w.heap.size + 1, x.1.1, none⟩ (.int .u64 a) = Wc := ⟨_, rfl⟩
        rw [hWc] at hq3 hv3 hr3 hb3 hc3 hbel3 hkb3 hcb3 ⊢
        have hszc : W.heap.size ≤ Wc.heap.size := hkb3.1
        have HQ3 := Aside0.mk hq3
        have HV3 := Aside0.mk hv3
        have HR3 := Aside0.mk hr3
        have HB3 := Aside0.mk hb3
        have HC3 := Aside0.mk hc3
        have HBEL3 := Aside0.mk hbel3
        have HKB3 := Aside0.mk hkb3
        have HCB3 := Aside0.mk hcb3
        clear hq3 hv3 hr3 hb3 hc3 hbel3 hkb3 hcb3 hWc cq fq c8 HQ2 HV2 HR2' HB02 HC2' HBEL HCB HKB2
        have ha9 : a < 1000000000 := by omega
        obtain ⟨pr, ⟨hp1, hp2, hp3⟩, htimes⟩ := times_at b a hb hlb ⟨ha0, ha9⟩
        have hp2' : pr.length ≤ 1000000 := by omega
        obtain ⟨pt, ⟨hpt1, hpt2, hpt3⟩, htrim1⟩ := trim_at pr hp1 hp2'
        obtain ⟨m, ⟨hm1, hm2, hm3⟩, hminus⟩ := minus_at ((x.1.2 : Int) :: rs) pt HOKR.out hpt2 (by simp; omega) (Nat.succ_pos _) (by rw [hpt1, hp3, ← HD.out, ← HR.out]; exact hDa)
        have hm3' : m.length ≤ rs.length + 1 := hm3
        obtain ⟨rs2, ⟨hs1, hs2, hs3⟩, htrim2⟩ := trim_at m hm2 (by omega)
        have hs4 : rs2.length ≤ rs.length + 1 := Nat.le_trans hs3 hm3'
        have hval : vB G rs2 = R - D * a := by rw [hs1, hm1, hpt1, hp3, ← HD.out, ← HR.out]
        have HVAL := Aside0.mk hval
        have HTR1 := Aside0.mk htrim1
        have HTR2 := Aside0.mk htrim2
        have HMI := Aside0.mk hminus
        clear hpt1 htrim1 hm1 hminus htrim2 hs1 hval hm3
        have HTIMES := Aside0.mk htimes
        have HP3 := Aside0.mk hp3
        have H9 := Aside0.mk (show Wc.cell? ⟨w.heap.size + 3, 0, none⟩ = some (.slice (some ⟨g, 0, none⟩) (rs.length + 1) cap) from blk_cell HR3.out 0)
        have H3 := Aside0.mk (show Wc.cell? ⟨w.heap.size, 0, none⟩ = some (.slice A2 b.length c2) from blk_cell HB3.out 0)
        have hl9 : w.heap.size + 3 < Wc.heap.size := by omega
        have hl0 : w.heap.size < Wc.heap.size := by omega
        clear htimes hp3 hp2
        have hfd := field_limbs
        have hfin : ∀ (w6 : World) (A8 : Option Addr) (c8 : Nat), Below Wc.heap.size Wc w6 → Kd.C (Kd.int .u64) w6 A8 rs2.length rs2 → rs2.length ≤ c8 → (∀ ad, A8 = some ad → 0 < rs2.length → wL.heap.size ≤ ad.block) →
            KeepsFrom wL.heap.size W (w6.setCell ⟨w.heap.size + 3, 0, none⟩ (.slice A8 rs2.length c8)) ∧ KpS (w.heap.size + 1) (w.heap.size + 4) W (w6.setCell ⟨w.heap.size + 3, 0, none⟩ (.slice A8 rs2.length c8)) ∧ DvJ w wL b l.length (pre.length + 1) (smStep (vB G b) st x) (w6.setCell ⟨w.heap.size + 3, 0, none⟩ (.slice A8 rs2.length c8)) := fun w6 A8 c8 hB6 hC6 hc6 hblk => by
          have hJ := HJ.out
          have hkb : KeepBut W (w6.setCell ⟨w.heap.size + 3, 0, none⟩ (.slice A8 rs2.length c8)) (w.heap.size + 3) (some (w.heap.size + 1)) := ⟨by simpa using Nat.le_trans HKB3.out.1 hB6.size, fun i hi h3 h1 => (Below.heap_setCell _ _ _ _ h3).trans ((hB6.block i (by omega)).trans (HKB3.out.2 i hi h3 h1))⟩
          have hsz := hJ.sz
          have hDpos : 0 < D := by rw [HD.out]; exact hpos
          have hqr : R / D = a ∧ R % D = vB G rs2 := by
            rw [HVAL.out]
            refine (Int.ediv_emod_unique hDpos).2 ⟨by omega, by omega, by have := HDZ.out; omega⟩
          have e1 : smStep (vB G b) st x = (st.1.set x.1.1 a, vB G rs2) := by
            unfold smStep
            rw [← HD.out, ← HR2.out, hqr.1, hqr.2]
          have hv0 : 0 ≤ vB G rs2 := by rw [← hqr.2]; exact Int.emod_nonneg _ (by omega)
          have hv1 : vB G rs2 < D := by rw [← hqr.2]; exact Int.emod_lt_of_pos _ hDpos
          rw [e1]
          refine ⟨⟨hkb.1, fun k o hk ho hoc => ?_⟩, ⟨fun k hk => hkb.2 k (by omega) (by omega) (fun e => by cases e; omega), hkb.2 _ (by omega) (by omega) (fun e => by simp at e)⟩,
            ⟨blk_far (p := ⟨w.heap.size + 3, 0, none⟩) (blk_below HQ3.out hB6) (by simp) _, blk_far (p := ⟨w.heap.size + 3, 0, none⟩) (blk_below HV3.out hB6) (by simp) _, ⟨rs2, A8, c8, blk_put (blk_below HR3.out hB6) 0 _ rfl, hc6, ?_, hblk, hs2, rfl, by omega⟩, hJ.kp.trans ⟨fun k hk => hkb.2 k (by omega) (by omega) (fun e => by cases e; omega), hkb.2 _ (by omega) (by omega) (fun e => by simp at e)⟩, Nat.le_trans hsz hkb.1, ?_, by simpa using hJ.len, hv0, by rw [← HD.out]; exact hv1⟩⟩
          · rw [hkb.2 k (Array.getElem?_eq_some_iff.1 ho).1 (by omega) (fun e => by cases e; omega)]
            exact ho
          · refine C_step hC6 (by omega) (fun ad e hp _ => Below.heap_setCell _ _ _ _ ?_)
            have := hblk ad e hp
            show ad.block ≠ w.heap.size + 3
            omega
          · exact (HBEL3.out.trans (hB6.mono (by omega))).setCell (p := ⟨w.heap.size + 3, 0, none⟩) (Nat.le_add_right _ _) _
        have HFIN := Aside0.mk hfin
        clear hfin
        refine region_round (S := fun W' => W'.cell? ⟨w.heap.size, 0, none⟩ = some (.slice A2 b.length c2)) (by kernel_rfl) (by kernel_rfl) H3.out (fun hHeld => ?_)
        refine wpAnyH_take (i := 1) (v := ?_) rfl (by kernel_rfl) (by kernel_rfl) (by kernel_rfl) quietQ (Or.inl ⟨by rfl, ?_⟩) (by assumption) ?_
        rotate_left
        · intro w hSw; (try dsimp only at hSw); go_simp
          all_goals with_reducible rfl
        try simp only [List.getElem_toArray, List.getElem_cons_succ, List.getElem_cons_zero, Act.put, List.setIfInBounds_toArray, List.set_cons_zero, List.set_cons_succ]
        refine wpAnyH_take (i := 2) (v := ?_) rfl (by kernel_rfl) (by kernel_rfl) (by kernel_rfl) quietQ (Or.inl ⟨by rfl, ?_⟩) (by assumption) ?_
        rotate_left
        · intro w hSw; (try dsimp only at hSw); go_simp
          all_goals with_reducible rfl
        try simp only [List.getElem_toArray, List.getElem_cons_succ, List.getElem_cons_zero, Act.put, List.setIfInBounds_toArray, List.set_cons_zero, List.set_cons_succ]
        refine wpAnyH_ready (rs := [0, 3]) (by kernel_rfl) (by simp) ?_
        refine AllReadyH.cons rfl (fun K hK => ?_) (AllReadyH.cons rfl (fun K hK => ?_) AllReadyH.nil)
        · have c90 : Wc.cell? ⟨w.heap.size + 3, 0, none⟩ = some (.slice (some ⟨g, 0, none⟩) (rs.length + 1) cap) := H9.out
          go_simp
          refine hK.out _ _ hHeld (fun _ => ?_)
          clear hK K c90
          try simp only [List.getElem_toArray, List.getElem_cons_succ, List.getElem_cons_zero, Act.put, List.setIfInBounds_toArray, List.set_cons_zero, List.set_cons_succ]
          refine wpAnyH_ready (rs := [3]) (by kernel_rfl) (by simp) ?_
          refine AllReadyH.cons rfl (fun K hK => ?_) AllReadyH.nil
          go_simp
          have hB1 : Below Wc.heap.size Wc ((Wc.alloc (.cells #[.int .u64 a] 65)).drew) := below_drew1 ((Below.refl _ Wc).alloc (Nat.le_refl _) _)
          refine hK.out _ _ ((hB1.cell (p := ⟨w.heap.size, 0, none⟩) hl0).trans H3.out) (fun hHeld1 => ?_)
          clear hK K
          try simp only [List.getElem_toArray, List.getElem_cons_succ, List.getElem_cons_zero, Act.put, List.setIfInBounds_toArray, List.set_cons_zero, List.set_cons_succ]
          refine wpAnyH_ready (rs := [4]) (by kernel_rfl) (by simp) ?_
          refine AllReadyH.cons rfl (fun K hK => ?_) AllReadyH.nil
          go_simp
          go_at_call 35
          refine (HTIMES.out A2 c2 Wc.heap.size ((Wc.alloc (.cells #[.int .u64 a] 65)).drew) (Kd.C_below HCB3.out hB1) hc2 (blk_drew (blk_new Wc _))).mono ?_
          rintro e w3 ⟨A5, c5, rfl, hV5, hB5⟩
          have hB15 := hB1.trans (hB5.mono hB1.size)
          refine hK.out _ _ ((hB15.cell (p := ⟨w.heap.size, 0, none⟩) hl0).trans H3.out) (fun hHeld3 => ?_)
          clear hK K
          try simp only [List.getElem_toArray, List.getElem_cons_succ, List.getElem_cons_zero, Act.put, List.setIfInBounds_toArray, List.set_cons_zero, List.set_cons_succ]
          refine wpAnyH_take (i := 5) (v := ?_) rfl (by kernel_rfl) (by kernel_rfl) (by kernel_rfl) quietQ (Or.inl ⟨by rfl, ?_⟩) (by assumption) ?_
          rotate_left
          · intro w hSw; (try dsimp only at hSw); go_simp
            all_goals with_reducible rfl
          try simp only [List.getElem_toArray, List.getElem_cons_succ, List.getElem_cons_zero, Act.put, List.setIfInBounds_toArray, List.set_cons_zero, List.set_cons_succ]
          refine wpAnyH_ready (rs := [6]) (by kernel_rfl) (by simp) ?_
          refine AllReadyH.cons rfl (fun K hK => ?_) AllReadyH.nil
          go_simp
          go_at_call 51
          refine (HTR1.out _ A5 c5 w3 hV5).mono ?_
          rintro e w4 ⟨A6, c6, rfl, hV6, hB6⟩
          have hB16 := hB15.trans (hB6.mono hB15.size)
          refine hK.out _ _ ((hB16.cell (p := ⟨w.heap.size, 0, none⟩) hl0).trans H3.out) (fun hHeld4 => ?_)
          clear hK K
          try simp only [List.getElem_toArray, List.getElem_cons_succ, List.getElem_cons_zero, Act.put, List.setIfInBounds_toArray, List.set_cons_zero, List.set_cons_succ]
          refine wpAnyH_take (i := 7) (v := ?_) rfl (by kernel_rfl) (by kernel_rfl) (by kernel_rfl) quietQ (Or.inl ⟨by rfl, ?_⟩) (by assumption) ?_
          rotate_left
          · intro w hSw; (try dsimp only at hSw); go_simp
            all_goals with_reducible rfl
          try simp only [List.getElem_toArray, List.getElem_cons_succ, List.getElem_cons_zero, Act.put, List.setIfInBounds_toArray, List.set_cons_zero, List.set_cons_succ]
          refine wpAnyH_ready (rs := [8]) (by kernel_rfl) (by simp) ?_
          refine AllReadyH.cons rfl (fun K hK => ?_) AllReadyH.nil
          go_simp
          go_at_call 50
          refine (HMI.out (some ⟨g, 0, none⟩) A6 cap c6 w4 (Kd.C_below HC3.out hB16) ha2' (Kd.V_reads' hV6).2.2 (Kd.V_reads' hV6).2.1).mono ?_
          rintro e w5 ⟨A7, c7, rfl, hV7, hB7⟩
          have hB17 := hB16.trans (hB7.mono hB16.size)
          refine hK.out _ _ ((hB17.cell (p := ⟨w.heap.size, 0, none⟩) hl0).trans H3.out) (fun hHeld5 => ?_)
          clear hK K
          try simp only [List.getElem_toArray, List.getElem_cons_succ, List.getElem_cons_zero, Act.put, List.setIfInBounds_toArray, List.set_cons_zero, List.set_cons_succ]
          refine wpAnyH_take (i := 9) (v := ?_) rfl (by kernel_rfl) (by kernel_rfl) (by kernel_rfl) quietQ (Or.inl ⟨by rfl, ?_⟩) (by assumption) ?_
          rotate_left
          · intro w hSw; (try dsimp only at hSw); go_simp
            all_goals with_reducible rfl
          try simp only [List.getElem_toArray, List.getElem_cons_succ, List.getElem_cons_zero, Act.put, List.setIfInBounds_toArray, List.set_cons_zero, List.set_cons_succ]
          refine wpAnyH_ready (rs := [10]) (by kernel_rfl) (by simp) ?_
          refine AllReadyH.cons rfl (fun K hK => ?_) AllReadyH.nil
          go_simp
          go_at_call 51
          refine (HTR2.out _ A7 c7 w5 hV7).mono ?_
          rintro e w6 ⟨A8, c8, rfl, hV8, hB8⟩
          have hB18 := hB17.trans (hB8.mono hB17.size)
          refine hK.out _ _ ((hB18.cell (p := ⟨w.heap.size, 0, none⟩) hl0).trans H3.out) (fun hHeld6 => ?_)
          clear hK K
          try simp only [List.getElem_toArray, List.getElem_cons_succ, List.getElem_cons_zero, Act.put, List.setIfInBounds_toArray, List.set_cons_zero, List.set_cons_succ]
          refine wpAnyH_take (i := 11) (v := ?_) rfl (by kernel_rfl) (by kernel_rfl) (by kernel_rfl) quietQ (Or.inl ⟨by rfl, ?_⟩) (by assumption) ?_
          rotate_left
          · intro w hSw; (try dsimp only at hSw); go_simp
            all_goals with_reducible rfl
          try simp only [List.getElem_toArray, List.getElem_cons_succ, List.getElem_cons_zero, Act.put, List.setIfInBounds_toArray, List.set_cons_zero, List.set_cons_succ]
          have c96 : w6.cell? ⟨w.heap.size + 3, 0, none⟩ = some (.slice (some ⟨g, 0, none⟩) (rs.length + 1) cap) := blk_cell (blk_below HR3.out hB18) 0
          have f96 := blk_frozen (blk_below HR3.out hB18) 0
          refine wpAnyH_ready (rs := [12]) (by kernel_rfl) (by simp) ?_
          refine AllReadyH.cons rfl (fun K hK => ?_) AllReadyH.nil
          go_simp
          refine hK.out _ _ (blk_cell (blk_far (p := ⟨w.heap.size + 3, 0, none⟩) (blk_below HB3.out hB18) (by simp) _) 0) (fun hHeld7 => ?_)
          refine wpAnyH_done (by kernel_rfl) ?_ _
          refine And.intro rfl ?_
          refine HPOST.out { tmps := #[], defers := [] } _ ?_
          exact HFIN.out w6 A8 c8 hB18 (Kd.V_reads' hV8).2.2 (Kd.V_reads' hV8).2.1 (fun ad e hp => by
            obtain ⟨ad', e', hor, _⟩ := limb_cells hV8 hp
            cases e.symm.trans e'
            have z1 := hB16.size
            have z2 := hB17.size
            have z3 := HJ.out.sz
            rcases hor with hor | hor <;> omega)
        · go_simp
          have hB1 : Below Wc.heap.size Wc ((Wc.alloc (.cells #[.int .u64 a] 65)).drew) := below_drew1 ((Below.refl _ Wc).alloc (Nat.le_refl _) _)
          refine hK.out _ _ ((hB1.cell (p := ⟨w.heap.size, 0, none⟩) hl0).trans H3.out) (fun hHeld1 => ?_)
          clear hK K
          try simp only [List.getElem_toArray, List.getElem_cons_succ, List.getElem_cons_zero, Act.put, List.setIfInBounds_toArray, List.set_cons_zero, List.set_cons_succ]
          refine wpAnyH_ready (rs := [0, 4]) (by kernel_rfl) (by simp) ?_
          refine AllReadyH.cons rfl (fun K hK => ?_) (AllReadyH.cons rfl (fun K hK => ?_) AllReadyH.nil)
          · have c90 : (Wc.alloc (.cells #[.int .u64 a] 65)).cell? ⟨w.heap.size + 3, 0, none⟩ = some (.slice (some ⟨g, 0, none⟩) (rs.length + 1) cap) := blk_cell (blk_alloc HR3.out (.cells #[.int .u64 a] 65)) 0
            go_simp
            refine hK.out _ _ hHeld1 (fun _ => ?_)
            clear hK K c90
            try simp only [List.getElem_toArray, List.getElem_cons_succ, List.getElem_cons_zero, Act.put, List.setIfInBounds_toArray, List.set_cons_zero, List.set_cons_succ]
            refine wpAnyH_ready (rs := [4]) (by kernel_rfl) (by simp) ?_
            refine AllReadyH.cons rfl (fun K hK => ?_) AllReadyH.nil
            go_simp
            go_at_call 35
            refine (HTIMES.out A2 c2 Wc.heap.size ((Wc.alloc (.cells #[.int .u64 a] 65)).drew) (Kd.C_below HCB3.out hB1) hc2 (blk_drew (blk_new Wc _))).mono ?_
            rintro e w3 ⟨A5, c5, rfl, hV5, hB5⟩
            have hB15 := hB1.trans (hB5.mono hB1.size)
            refine hK.out _ _ ((hB15.cell (p := ⟨w.heap.size, 0, none⟩) hl0).trans H3.out) (fun hHeld3 => ?_)
            clear hK K
            try simp only [List.getElem_toArray, List.getElem_cons_succ, List.getElem_cons_zero, Act.put, List.setIfInBounds_toArray, List.set_cons_zero, List.set_cons_succ]
            refine wpAnyH_take (i := 5) (v := ?_) rfl (by kernel_rfl) (by kernel_rfl) (by kernel_rfl) quietQ (Or.inl ⟨by rfl, ?_⟩) (by assumption) ?_
            rotate_left
            · intro w hSw; (try dsimp only at hSw); go_simp
              all_goals with_reducible rfl
            try simp only [List.getElem_toArray, List.getElem_cons_succ, List.getElem_cons_zero, Act.put, List.setIfInBounds_toArray, List.set_cons_zero, List.set_cons_succ]
            refine wpAnyH_ready (rs := [6]) (by kernel_rfl) (by simp) ?_
            refine AllReadyH.cons rfl (fun K hK => ?_) AllReadyH.nil
            go_simp
            go_at_call 51
            refine (HTR1.out _ A5 c5 w3 hV5).mono ?_
            rintro e w4 ⟨A6, c6, rfl, hV6, hB6⟩
            have hB16 := hB15.trans (hB6.mono hB15.size)
            refine hK.out _ _ ((hB16.cell (p := ⟨w.heap.size, 0, none⟩) hl0).trans H3.out) (fun hHeld4 => ?_)
            clear hK K
            try simp only [List.getElem_toArray, List.getElem_cons_succ, List.getElem_cons_zero, Act.put, List.setIfInBounds_toArray, List.set_cons_zero, List.set_cons_succ]
            refine wpAnyH_take (i := 7) (v := ?_) rfl (by kernel_rfl) (by kernel_rfl) (by kernel_rfl) quietQ (Or.inl ⟨by rfl, ?_⟩) (by assumption) ?_
            rotate_left
            · intro w hSw; (try dsimp only at hSw); go_simp
              all_goals with_reducible rfl
            try simp only [List.getElem_toArray, List.getElem_cons_succ, List.getElem_cons_zero, Act.put, List.setIfInBounds_toArray, List.set_cons_zero, List.set_cons_succ]
            refine wpAnyH_ready (rs := [8]) (by kernel_rfl) (by simp) ?_
            refine AllReadyH.cons rfl (fun K hK => ?_) AllReadyH.nil
            go_simp
            go_at_call 50
            refine (HMI.out (some ⟨g, 0, none⟩) A6 cap c6 w4 (Kd.C_below HC3.out hB16) ha2' (Kd.V_reads' hV6).2.2 (Kd.V_reads' hV6).2.1).mono ?_
            rintro e w5 ⟨A7, c7, rfl, hV7, hB7⟩
            have hB17 := hB16.trans (hB7.mono hB16.size)
            refine hK.out _ _ ((hB17.cell (p := ⟨w.heap.size, 0, none⟩) hl0).trans H3.out) (fun hHeld5 => ?_)
            clear hK K
            try simp only [List.getElem_toArray, List.getElem_cons_succ, List.getElem_cons_zero, Act.put, List.setIfInBounds_toArray, List.set_cons_zero, List.set_cons_succ]
            refine wpAnyH_take (i := 9) (v := ?_) rfl (by kernel_rfl) (by kernel_rfl) (by kernel_rfl) quietQ (Or.inl ⟨by rfl, ?_⟩) (by assumption) ?_
            rotate_left
            · intro w hSw; (try dsimp only at hSw); go_simp
              all_goals with_reducible rfl
            try simp only [List.getElem_toArray, List.getElem_cons_succ, List.getElem_cons_zero, Act.put, List.setIfInBounds_toArray, List.set_cons_zero, List.set_cons_succ]
            refine wpAnyH_ready (rs := [10]) (by kernel_rfl) (by simp) ?_
            refine AllReadyH.cons rfl (fun K hK => ?_) AllReadyH.nil
            go_simp
            go_at_call 51
            refine (HTR2.out _ A7 c7 w5 hV7).mono ?_
            rintro e w6 ⟨A8, c8, rfl, hV8, hB8⟩
            have hB18 := hB17.trans (hB8.mono hB17.size)
            refine hK.out _ _ ((hB18.cell (p := ⟨w.heap.size, 0, none⟩) hl0).trans H3.out) (fun hHeld6 => ?_)
            clear hK K
            try simp only [List.getElem_toArray, List.getElem_cons_succ, List.getElem_cons_zero, Act.put, List.setIfInBounds_toArray, List.set_cons_zero, List.set_cons_succ]
            refine wpAnyH_take (i := 11) (v := ?_) rfl (by kernel_rfl) (by kernel_rfl) (by kernel_rfl) quietQ (Or.inl ⟨by rfl, ?_⟩) (by assumption) ?_
            rotate_left
            · intro w hSw; (try dsimp only at hSw); go_simp
              all_goals with_reducible rfl
            try simp only [List.getElem_toArray, List.getElem_cons_succ, List.getElem_cons_zero, Act.put, List.setIfInBounds_toArray, List.set_cons_zero, List.set_cons_succ]
            have c96 : w6.cell? ⟨w.heap.size + 3, 0, none⟩ = some (.slice (some ⟨g, 0, none⟩) (rs.length + 1) cap) := blk_cell (blk_below HR3.out hB18) 0
            have f96 := blk_frozen (blk_below HR3.out hB18) 0
            refine wpAnyH_ready (rs := [12]) (by kernel_rfl) (by simp) ?_
            refine AllReadyH.cons rfl (fun K hK => ?_) AllReadyH.nil
            go_simp
            refine hK.out _ _ (blk_cell (blk_far (p := ⟨w.heap.size + 3, 0, none⟩) (blk_below HB3.out hB18) (by simp) _) 0) (fun hHeld7 => ?_)
            refine wpAnyH_done (by kernel_rfl) ?_ _
            refine And.intro rfl ?_
            refine HPOST.out { tmps := #[], defers := [] } _ ?_
            exact HFIN.out w6 A8 c8 hB18 (Kd.V_reads' hV8).2.2 (Kd.V_reads' hV8).2.1 (fun ad e hp => by
              obtain ⟨ad', e', hor, _⟩ := limb_cells hV8 hp
              cases e.symm.trans e'
              have z1 := hB16.size
              have z2 := hB17.size
              have z3 := HJ.out.sz
              rcases hor with hor | hor <;> omega)
          · go_simp
            go_at_call 35
            refine (HTIMES.out A2 c2 Wc.heap.size ((Wc.alloc (.cells #[.int .u64 a] 65)).drew) (Kd.C_below HCB3.out hB1) hc2 (blk_drew (blk_new Wc _))).mono ?_
            rintro e w3 ⟨A5, c5, rfl, hV5, hB5⟩
            have hB15 := hB1.trans (hB5.mono hB1.size)
            refine hK.out _ _ ((hB15.cell (p := ⟨w.heap.size, 0, none⟩) hl0).trans H3.out) (fun hHeld3 => ?_)
            clear hK K
            try simp only [List.getElem_toArray, List.getElem_cons_succ, List.getElem_cons_zero, Act.put, List.setIfInBounds_toArray, List.set_cons_zero, List.set_cons_succ]
            refine wpAnyH_take (i := 5) (v := ?_) rfl (by kernel_rfl) (by kernel_rfl) (by kernel_rfl) quietQ (Or.inl ⟨by rfl, ?_⟩) (by assumption) ?_
            rotate_left
            · intro w hSw; (try dsimp only at hSw); go_simp
              all_goals with_reducible rfl
            try simp only [List.getElem_toArray, List.getElem_cons_succ, List.getElem_cons_zero, Act.put, List.setIfInBounds_toArray, List.set_cons_zero, List.set_cons_succ]
            refine wpAnyH_ready (rs := [0, 6]) (by kernel_rfl) (by simp) ?_
            refine AllReadyH.cons rfl (fun K hK => ?_) (AllReadyH.cons rfl (fun K hK => ?_) AllReadyH.nil)
            · have c90 : w3.cell? ⟨w.heap.size + 3, 0, none⟩ = some (.slice (some ⟨g, 0, none⟩) (rs.length + 1) cap) := (hB15.cell (p := ⟨w.heap.size + 3, 0, none⟩) hl9).trans H9.out
              go_simp
              refine hK.out _ _ hHeld3 (fun _ => ?_)
              clear hK K c90
              try simp only [List.getElem_toArray, List.getElem_cons_succ, List.getElem_cons_zero, Act.put, List.setIfInBounds_toArray, List.set_cons_zero, List.set_cons_succ]
              refine wpAnyH_ready (rs := [6]) (by kernel_rfl) (by simp) ?_
              refine AllReadyH.cons rfl (fun K hK => ?_) AllReadyH.nil
              go_simp
              go_at_call 51
              refine (HTR1.out _ A5 c5 w3 hV5).mono ?_
              rintro e w4 ⟨A6, c6, rfl, hV6, hB6⟩
              have hB16 := hB15.trans (hB6.mono hB15.size)
              refine hK.out _ _ ((hB16.cell (p := ⟨w.heap.size, 0, none⟩) hl0).trans H3.out) (fun hHeld4 => ?_)
              clear hK K
              try simp only [List.getElem_toArray, List.getElem_cons_succ, List.getElem_cons_zero, Act.put, List.setIfInBounds_toArray, List.set_cons_zero, List.set_cons_succ]
              refine wpAnyH_take (i := 7) (v := ?_) rfl (by kernel_rfl) (by kernel_rfl) (by kernel_rfl) quietQ (Or.inl ⟨by rfl, ?_⟩) (by assumption) ?_
              rotate_left
              · intro w hSw; (try dsimp only at hSw); go_simp
                all_goals with_reducible rfl
              try simp only [List.getElem_toArray, List.getElem_cons_succ, List.getElem_cons_zero, Act.put, List.setIfInBounds_toArray, List.set_cons_zero, List.set_cons_succ]
              refine wpAnyH_ready (rs := [8]) (by kernel_rfl) (by simp) ?_
              refine AllReadyH.cons rfl (fun K hK => ?_) AllReadyH.nil
              go_simp
              go_at_call 50
              refine (HMI.out (some ⟨g, 0, none⟩) A6 cap c6 w4 (Kd.C_below HC3.out hB16) ha2' (Kd.V_reads' hV6).2.2 (Kd.V_reads' hV6).2.1).mono ?_
              rintro e w5 ⟨A7, c7, rfl, hV7, hB7⟩
              have hB17 := hB16.trans (hB7.mono hB16.size)
              refine hK.out _ _ ((hB17.cell (p := ⟨w.heap.size, 0, none⟩) hl0).trans H3.out) (fun hHeld5 => ?_)
              clear hK K
              try simp only [List.getElem_toArray, List.getElem_cons_succ, List.getElem_cons_zero, Act.put, List.setIfInBounds_toArray, List.set_cons_zero, List.set_cons_succ]
              refine wpAnyH_take (i := 9) (v := ?_) rfl (by kernel_rfl) (by kernel_rfl) (by kernel_rfl) quietQ (Or.inl ⟨by rfl, ?_⟩) (by assumption) ?_
              rotate_left
              · intro w hSw; (try dsimp only at hSw); go_simp
                all_goals with_reducible rfl
              try simp only [List.getElem_toArray, List.getElem_cons_succ, List.getElem_cons_zero, Act.put, List.setIfInBounds_toArray, List.set_cons_zero, List.set_cons_succ]
              refine wpAnyH_ready (rs := [10]) (by kernel_rfl) (by simp) ?_
              refine AllReadyH.cons rfl (fun K hK => ?_) AllReadyH.nil
              go_simp
              go_at_call 51
              refine (HTR2.out _ A7 c7 w5 hV7).mono ?_
              rintro e w6 ⟨A8, c8, rfl, hV8, hB8⟩
              have hB18 := hB17.trans (hB8.mono hB17.size)
              refine hK.out _ _ ((hB18.cell (p := ⟨w.heap.size, 0, none⟩) hl0).trans H3.out) (fun hHeld6 => ?_)
              clear hK K
              try simp only [List.getElem_toArray, List.getElem_cons_succ, List.getElem_cons_zero, Act.put, List.setIfInBounds_toArray, List.set_cons_zero, List.set_cons_succ]
              refine wpAnyH_take (i := 11) (v := ?_) rfl (by kernel_rfl) (by kernel_rfl) (by kernel_rfl) quietQ (Or.inl ⟨by rfl, ?_⟩) (by assumption) ?_
              rotate_left
              · intro w hSw; (try dsimp only at hSw); go_simp
                all_goals with_reducible rfl
              try simp only [List.getElem_toArray, List.getElem_cons_succ, List.getElem_cons_zero, Act.put, List.setIfInBounds_toArray, List.set_cons_zero, List.set_cons_succ]
              have c96 : w6.cell? ⟨w.heap.size + 3, 0, none⟩ = some (.slice (some ⟨g, 0, none⟩) (rs.length + 1) cap) := blk_cell (blk_below HR3.out hB18) 0
              have f96 := blk_frozen (blk_below HR3.out hB18) 0
              refine wpAnyH_ready (rs := [12]) (by kernel_rfl) (by simp) ?_
              refine AllReadyH.cons rfl (fun K hK => ?_) AllReadyH.nil
              go_simp
              refine hK.out _ _ (blk_cell (blk_far (p := ⟨w.heap.size + 3, 0, none⟩) (blk_below HB3.out hB18) (by simp) _) 0) (fun hHeld7 => ?_)
              refine wpAnyH_done (by kernel_rfl) ?_ _
              refine And.intro rfl ?_
              refine HPOST.out { tmps := #[], defers := [] } _ ?_
              exact HFIN.out w6 A8 c8 hB18 (Kd.V_reads' hV8).2.2 (Kd.V_reads' hV8).2.1 (fun ad e hp => by
                obtain ⟨ad', e', hor, _⟩ := limb_cells hV8 hp
                cases e.symm.trans e'
                have z1 := hB16.size
                have z2 := hB17.size
                have z3 := HJ.out.sz
                rcases hor with hor | hor <;> omega)
            · go_simp
              go_at_call 51
              refine (HTR1.out _ A5 c5 w3 hV5).mono ?_
              rintro e w4 ⟨A6, c6, rfl, hV6, hB6⟩
              have hB16 := hB15.trans (hB6.mono hB15.size)
              refine hK.out _ _ ((hB16.cell (p := ⟨w.heap.size, 0, none⟩) hl0).trans H3.out) (fun hHeld4 => ?_)
              clear hK K
              try simp only [List.getElem_toArray, List.getElem_cons_succ, List.getElem_cons_zero, Act.put, List.setIfInBounds_toArray, List.set_cons_zero, List.set_cons_succ]
              refine wpAnyH_take (i := 7) (v := ?_) rfl (by kernel_rfl) (by kernel_rfl) (by kernel_rfl) quietQ (Or.inl ⟨by rfl, ?_⟩) (by assumption) ?_
              rotate_left
              · intro w hSw; (try dsimp only at hSw); go_simp
                all_goals with_reducible rfl
              try simp only [List.getElem_toArray, List.getElem_cons_succ, List.getElem_cons_zero, Act.put, List.setIfInBounds_toArray, List.set_cons_zero, List.set_cons_succ]
              refine wpAnyH_ready (rs := [0]) (by kernel_rfl) (by simp) ?_
              refine AllReadyH.cons rfl (fun K hK => ?_) AllReadyH.nil
              have c90 : w4.cell? ⟨w.heap.size + 3, 0, none⟩ = some (.slice (some ⟨g, 0, none⟩) (rs.length + 1) cap) := (hB16.cell (p := ⟨w.heap.size + 3, 0, none⟩) hl9).trans H9.out
              go_simp
              refine hK.out _ _ hHeld4 (fun _ => ?_)
              clear hK K c90
              try simp only [List.getElem_toArray, List.getElem_cons_succ, List.getElem_cons_zero, Act.put, List.setIfInBounds_toArray, List.set_cons_zero, List.set_cons_succ]
              refine wpAnyH_ready (rs := [8]) (by kernel_rfl) (by simp) ?_
              refine AllReadyH.cons rfl (fun K hK => ?_) AllReadyH.nil
              go_simp
              go_at_call 50
              refine (HMI.out (some ⟨g, 0, none⟩) A6 cap c6 w4 (Kd.C_below HC3.out hB16) ha2' (Kd.V_reads' hV6).2.2 (Kd.V_reads' hV6).2.1).mono ?_
              rintro e w5 ⟨A7, c7, rfl, hV7, hB7⟩
              have hB17 := hB16.trans (hB7.mono hB16.size)
              refine hK.out _ _ ((hB17.cell (p := ⟨w.heap.size, 0, none⟩) hl0).trans H3.out) (fun hHeld5 => ?_)
              clear hK K
              try simp only [List.getElem_toArray, List.getElem_cons_succ, List.getElem_cons_zero, Act.put, List.setIfInBounds_toArray, List.set_cons_zero, List.set_cons_succ]
              refine wpAnyH_take (i := 9) (v := ?_) rfl (by kernel_rfl) (by kernel_rfl) (by kernel_rfl) quietQ (Or.inl ⟨by rfl, ?_⟩) (by assumption) ?_
              rotate_left
              · intro w hSw; (try dsimp only at hSw); go_simp
                all_goals with_reducible rfl
              try simp only [List.getElem_toArray, List.getElem_cons_succ, List.getElem_cons_zero, Act.put, List.setIfInBounds_toArray, List.set_cons_zero, List.set_cons_succ]
              refine wpAnyH_ready (rs := [10]) (by kernel_rfl) (by simp) ?_
              refine AllReadyH.cons rfl (fun K hK => ?_) AllReadyH.nil
              go_simp
              go_at_call 51
              refine (HTR2.out _ A7 c7 w5 hV7).mono ?_
              rintro e w6 ⟨A8, c8, rfl, hV8, hB8⟩
              have hB18 := hB17.trans (hB8.mono hB17.size)
              refine hK.out _ _ ((hB18.cell (p := ⟨w.heap.size, 0, none⟩) hl0).trans H3.out) (fun hHeld6 => ?_)
              clear hK K
              try simp only [List.getElem_toArray, List.getElem_cons_succ, List.getElem_cons_zero, Act.put, List.setIfInBounds_toArray, List.set_cons_zero, List.set_cons_succ]
              refine wpAnyH_take (i := 11) (v := ?_) rfl (by kernel_rfl) (by kernel_rfl) (by kernel_rfl) quietQ (Or.inl ⟨by rfl, ?_⟩) (by assumption) ?_
              rotate_left
              · intro w hSw; (try dsimp only at hSw); go_simp
                all_goals with_reducible rfl
              try simp only [List.getElem_toArray, List.getElem_cons_succ, List.getElem_cons_zero, Act.put, List.setIfInBounds_toArray, List.set_cons_zero, List.set_cons_succ]
              have c96 : w6.cell? ⟨w.heap.size + 3, 0, none⟩ = some (.slice (some ⟨g, 0, none⟩) (rs.length + 1) cap) := blk_cell (blk_below HR3.out hB18) 0
              have f96 := blk_frozen (blk_below HR3.out hB18) 0
              refine wpAnyH_ready (rs := [12]) (by kernel_rfl) (by simp) ?_
              refine AllReadyH.cons rfl (fun K hK => ?_) AllReadyH.nil
              go_simp
              refine hK.out _ _ (blk_cell (blk_far (p := ⟨w.heap.size + 3, 0, none⟩) (blk_below HB3.out hB18) (by simp) _) 0) (fun hHeld7 => ?_)
              refine wpAnyH_done (by kernel_rfl) ?_ _
              refine And.intro rfl ?_
              refine HPOST.out { tmps := #[], defers := [] } _ ?_
              exact HFIN.out w6 A8 c8 hB18 (Kd.V_reads' hV8).2.2 (Kd.V_reads' hV8).2.1 (fun ad e hp => by
                obtain ⟨ad', e', hor, _⟩ := limb_cells hV8 hp
                cases e.symm.trans e'
                have z1 := hB16.size
                have z2 := hB17.size
                have z3 := HJ.out.sz
                rcases hor with hor | hor <;> omega)
  case done =>
    rintro D ys W hD rfl hJ' hK
    obtain ⟨st, hst⟩ : ∃ st, st = (downTo (limbF l hok) l.length l.length).foldl (smStep (vB G b)) (List.replicate l.length 0, 0) := ⟨_, rfl⟩
    rw [← hst] at hJ'
    have HST := Aside0.mk hst
    clear hst
    obtain ⟨hle, hJ⟩ := hJ'
    rw [downTo_length] at hJ
    obtain ⟨rs, A3, c3, hr1, hr2, hr3, hr4, hr5, hr6, hr7⟩ := hJ.r
    have c8 : W.cell? ⟨w.heap.size + 2, 0, none⟩ = some (.slice (some ⟨w.heap.size + 1, 0, none⟩) l.length l.length) := blk_cell hJ.v 0
    have c9 : W.cell? ⟨w.heap.size + 3, 0, none⟩ = some (.slice A3 rs.length c3) := blk_cell hr1 0
    gi_wp2
    gi_region
    all_goals gi_wp2
    refine ⟨by simp, .inl ⟨_, _, rfl, run_takeDeferred (w := W.drew) hK, ?_⟩⟩
    refine ⟨Value.tuple #[.slice (some ⟨w.heap.size + 1, 0, none⟩) l.length l.length, .slice A3 rs.length c3], by simp [results, Tryd.results61, go_sem], ?_⟩
    have hbel := (below_drew1 hJ.bel).trans (belowK_b (w := w) (Nat.le_refl _) W.drew D _ (.deferred none) (by omega) hK rfl rfl)
    have hq : (W.drew.putObj D (.deferred none)).heap[w.heap.size + 1]? = some (.cells (nums .u64 st.1).toArray 65 (0, 0)) := (World.putObj_heap_other (by omega)).trans (blk_drew hJ.q)
    have hV := V_blk (base := 0) hq (by have := hJ.len; omega) (fun k => w.heap.size ≤ k) (Nat.le_succ _) 65
    rw [hJ.len] at hV
    have hCr : Kd.C (Kd.int .u64) (W.drew.putObj D (.deferred none)) A3 rs.length rs := C_step hr3 (by omega) (fun ad e hp ⟨o, ho, hoc⟩ => World.putObj_heap_other (fun e2 => by
      have hK' : W.heap[D]? = some (.deferred (some [])) := hK
      subst e2
      rw [hK'] at ho
      cases ho
      simp [Obj.isCells] at hoc))
    exact ⟨st.1, rs, w.heap.size + 1, A3, c3, rfl, hV, V_of_C hCr (by omega) hr2 (fun k => w.heap.size ≤ k) (fun ad e hp => by have := hr4 ad e hp; omega), hr5, by rw [hr6]; exact HST.out, by omega, hbel⟩
end Go.Proofs.YtlnneellihkdkaaDoor.D
