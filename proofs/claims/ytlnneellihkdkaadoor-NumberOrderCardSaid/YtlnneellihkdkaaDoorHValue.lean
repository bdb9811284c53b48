/- The text of limbs is the numeral of their value. -/
import Derived.Test.YtlnneellihkdkaaDoorHText
namespace Go.Proofs.YtlnneellihkdkaaDoor.D
open Go Go.Proofs Go.RowKit Go.Shelf Go.Proofs.YtlnneellihkdkaaDoorW.PrintWords Go.Proofs.YtlnneellihkdkaaDoorW.PrintLast Go.Proofs.YtlnneellihkdkaaDoorW.PrintMore
attribute [local go_sem] Oper.semAt_some
set_option linter.unusedVariables false
set_option linter.unusedSimpArgs false

theorem dv_zeros (n : Nat) (d : List UInt8) : N.dv (List.replicate n 48 ++ d) = N.dv d := by
  rw [dv_app]
  have : N.dv (List.replicate n 48) = 0 := by
    induction n with
    | zero => rfl
    | succ n ih => rw [List.replicate_succ', N.dv_snoc, ih]; rfl
  rw [this, Nat.zero_mul, Nat.zero_add]
/-- One limb more behind a number that is not nought. -/
theorem dec_join (u d : Nat) (hu : 0 < u) (hd : d < 1000000000) : Lib.decDigits (u * 1000000000 + d) = Lib.decDigits u ++ (List.replicate (9 - (Lib.decDigits d).length) 48 ++ Lib.decDigits d) := by
  have h9 : (Lib.decDigits d).length ≤ 9 := N.dec_len _ 9 (by omega) (Nat.lt_of_lt_of_le hd (by decide))
  have hl : (List.replicate (9 - (Lib.decDigits d).length) 48 ++ Lib.decDigits d).length = 9 := by rw [List.length_append, List.length_replicate]; omega
  have hv : N.dv (Lib.decDigits u ++ (List.replicate (9 - (Lib.decDigits d).length) 48 ++ Lib.decDigits d)) = u * 1000000000 + d := by
    rw [dv_app, hl, dv_zeros, N.dv_dec, N.dv_dec]
  have hne := N.dec_ne u
  rw [← hv]
  refine N.dec_dv _ _ rfl (by simp [hne]) ?_ ?_
  · rw [List.all_append, List.all_append, N.dec_all, N.dec_all]
    simp [N.digU]
  · rw [N.head_app hne]
    intro h
    have := N.dec_head u h
    omega
theorem G_def : G = 1000000000 := rfl

theorem flat_down (t : List Int) (h : OkB G t) (hl : t.length ≤ 1000000) (htop : t.getD (t.length - 1) 0 ≠ 0) (k : Nat) : k + 1 ≤ t.length → (downTo (limbAt t h hl) t.length (k + 1)).flatMap (pieceT (t.length - 1)) = Lib.decDigits (vB G (t.drop (t.length - (k + 1)))).toNat ∧ 0 < vB G (t.drop (t.length - (k + 1))) := by
  induction k with
  | zero =>
    intro hk
    have e1 := limbAt_1 t h hl (t.length - 1) (by omega)
    have hb := getD_ok (by decide : 1 ≤ G) h (t.length - 1)
    have e2 : vB G (t.drop (t.length - (0 + 1))) = t.getD (t.length - 1) 0 := by
      rw [vB_drop, List.drop_eq_nil_of_le (by omega)]
      simp [vB]
    rw [e2]
    refine ⟨?_, by omega⟩
    simp only [downTo, List.range_succ, List.range_zero, List.nil_append, List.map_cons, List.map_nil, List.flatMap_cons, List.flatMap_nil, List.append_nil, Nat.sub_zero]
    unfold pieceT
    rw [if_neg (by rw [e1.1]; omega), List.nil_append]
    congr 1
    have := e1.2
    omega
  | succ k ih =>
    intro hk
    obtain ⟨ih1, ih2⟩ := ih (by omega)
    have e1 := limbAt_1 t h hl (t.length - 1 - (k + 1)) (by omega)
    have hb := getD_ok (by decide : 1 ≤ G) h (t.length - 1 - (k + 1))
    have e2 : vB G (t.drop (t.length - (k + 1 + 1))) = t.getD (t.length - 1 - (k + 1)) 0 + G * vB G (t.drop (t.length - (k + 1))) := by
      rw [vB_drop, show t.length - (k + 1 + 1) + 1 = t.length - (k + 1) by omega, show t.length - (k + 1 + 1) = t.length - 1 - (k + 1) by omega]
    rw [downTo_succ, List.flatMap_append, ih1, e2]
    have hG := G_def
    generalize hV : vB G (t.drop (t.length - (k + 1))) = V at *
    refine ⟨?_, by rw [hG]; omega⟩
    have hN : (t.getD (t.length - 1 - (k + 1)) 0 + G * V).toNat = V.toNat * 1000000000 + (t.getD (t.length - 1 - (k + 1)) 0).toNat := by rw [hG]; omega
    rw [hN, dec_join _ _ (by omega) (by omega)]
    simp only [List.flatMap_cons, List.flatMap_nil, List.append_nil]
    congr 1
    unfold pieceT
    rw [if_pos (by rw [e1.1]; omega)]
    have : (limbAt t h hl (t.length - 1 - (k + 1))).1.2 = (t.getD (t.length - 1 - (k + 1)) 0).toNat := by have := e1.2; omega
    rw [this]
theorem textT_val (t : List Int) (h : OkB G t) (hl : t.length ≤ 1000000) (hne : t ≠ []) (htop : t.getD (t.length - 1) 0 ≠ 0) : textT t h hl = Lib.decDigits (vB G t).toNat ∧ 0 < vB G t := by
  have hp := List.length_pos_iff.2 hne
  have := flat_down t h hl htop (t.length - 1) (by omega)
  rw [show t.length - 1 + 1 = t.length by omega, Nat.sub_self, List.drop_zero] at this
  exact this
/-- What a number's text is answered as. -/
def numE (z : Int) : Ending := if (Lib.decDigits z.natAbs).length ≤ 200 then .returned (.string (baU (Lib.itoa z))) else bigE

set_option maxRecDepth 100000 in
set_option maxHeartbeats 4000000 in
theorem text_nil (l : List Int) (neg : Bool) (hnil : trimL l = []) (hlen : l.length ≤ 1000) (A : Option Addr) (c : Nat) (w : World) (hV : Kd.V (Kd.int .u64) 65 w w.heap.size (fun _ => True) (.slice A l.length c) l) :
    CallsIn Fence.wide 8 Tryd.prog 34 #[.agg #[.slice A l.length c, .bool neg]] w fun e w' => e = .returned (.string (baU [48])) ∧ Below w.heap.size w w' := by
  have hu45 := Tryd.underlying45
  obtain ⟨k, hk⟩ := Ev.rounds (trim_prog_ev l neg (by omega))
  unfold trimP at hk
  rw [if_pos hnil] at hk
  have HT := Aside0.mk (fun (W : World) (hb : Below w.heap.size w W) => (callsIn_wide (n := 7)).2 (number_value_trim.calls k (fun k => k < w.heap.size) A c l neg _ _ W (Kd.V_below (Kd.V_mono (Kd.V_bound hV) (fun k h => h.2)) hb) hk))
  clear hk hV
  refine callsIn_of_wp_marks Tryd.func34 rfl trivial ?_ rfl
  simp only [Tryd.ntmps34, List.size_toArray, List.length_cons, List.length_nil, Nat.reduceAdd, Nat.reduceSub, Array.replicate_succ, Array.replicate_zero, List.push_toArray, List.append_toArray, List.nil_append, List.cons_append]
  gi_wp2_with (first
    | (refine ⟨trivial, ?_⟩; gi_at_call 51; refine (HT.out _ (by exact (Below.refl _ w).alloc (Nat.le_refl _) _)).mono ?_; rintro e w' ⟨v0, rfl, hV, hB⟩; obtain ⟨A', c', rfl⟩ := Kd.V_slice hV
       have hbk : w'.heap[w.heap.size]? = some (.cells #[.slice A l.length c, .bool neg] 45) := (hB.block _ (by simp)).trans (World.alloc_heap_new w _)
       have c0 : w'.cell? ⟨w.heap.size, 0, none⟩ = some (.slice A l.length c) := by rw [Lib.cell_of_heap hbk]; rfl
       have c1 : w'.cell? ⟨w.heap.size, 1, none⟩ = some (.bool neg) := by rw [Lib.cell_of_heap hbk]; rfl
       have f0 : w'.frozen? ⟨w.heap.size, 0, none⟩ = false := Lib.frozen_of_heap hbk 0
       have f1 : w'.frozen? ⟨w.heap.size, 1, none⟩ = false := Lib.frozen_of_heap hbk 1
       have hW1 : ((w'.setCell ⟨w.heap.size, 0, none⟩ (.slice A' (trimL l).length c')).setCell ⟨w.heap.size, 1, none⟩ (.bool false)).heap[w.heap.size]? = some (.cells #[.slice A' (trimL l).length c', .bool false] 45) := blk_put (blk_put hbk 0 _ rfl) 1 _ rfl
       have hW2 := blk_alloc hW1 (.cells #[Value.pointer none, Value.slice none 0 0] 69)
       have e0 := (blk_cell hW2 0).trans (show _ = some (Value.slice A' (trimL l).length c') from rfl)
       have hBel : Below w.heap.size w ((w'.setCell ⟨w.heap.size, 0, none⟩ (.slice A' (trimL l).length c')).setCell ⟨w.heap.size, 1, none⟩ (.bool false)) := ((((Below.refl _ w).alloc (Nat.le_refl _) _).trans (hB.mono (by simp))).setCell (p := ⟨w.heap.size, 0, none⟩) (Nat.le_refl _) _).setCell (p := ⟨w.heap.size, 1, none⟩) (Nat.le_refl _) _
       have hne0 : (((trimL l).length : Int) == 0) = true := by rw [hnil]; rfl
       clear hW1 hW2 hbk hV hB)
    | fail)
  exact ⟨_, results_tmp rfl _ _ _, rfl, by rw [hnil] at hBel; exact hBel⟩

/-- value.text. -/
theorem text_calls (l : List Int) (neg : Bool) (hok : OkB G l) (hlen : l.length ≤ 1000) (A : Option Addr) (c : Nat) (w : World) (hL : LaidW w) (hV : Kd.V (Kd.int .u64) 65 w w.heap.size (fun _ => True) (.slice A l.length c) l) :
    Calls Tryd.prog 34 #[.agg #[.slice A l.length c, .bool neg]] w fun e w' => e = numE (sv G l neg) ∧ Below w.heap.size w w' := by
  obtain ⟨h1, h2, h3, h4⟩ := trimN_all G l.length l rfl
  by_cases hn : trimL l = []
  · refine (callsIn_wide.1 (text_nil l neg hn hlen A c w hV)).mono ?_
    rintro e w' ⟨rfl, hb⟩
    refine ⟨?_, hb⟩
    have hv : vB G l = 0 := by
      rw [← h1]
      show vB G (trimL l) = 0
      rw [hn]
      rfl
    have : sv G l neg = 0 := by unfold sv; rw [hv]; simp
    rw [this]
    have d0 : Lib.decDigits 0 = [48] := by rw [Lib.decDigits]; simp
    unfold numE Lib.itoa
    simp [d0]
  · have hok' : OkB G (trimL l) := h2 hok
    have hlt : (trimL l).length ≤ 1000000 := Nat.le_trans h3 (by omega)
    obtain ⟨ht, hp⟩ := textT_val (trimL l) hok' hlt hn (h4 hn)
    have hv : vB G (trimL l) = vB G l := h1
    refine (callsIn_wide.1 (text_ne l neg hok' hlen hlt hn A c w hL hV)).mono ?_
    rintro e w' ⟨rfl, hb⟩
    refine ⟨?_, hb⟩
    rw [hv] at hp
    rw [ht, hv]
    have hab : (sv G l neg).natAbs = (vB G l).toNat := by unfold sv; split <;> omega
    have hit : Lib.itoa (sv G l neg) = if neg = true then 45 :: Lib.decDigits (vB G l).toNat else Lib.decDigits (vB G l).toNat := by
      unfold Lib.itoa
      cases neg
      · rw [show sv G l false = vB G l from rfl, if_neg (by omega)]
        rfl
      · rw [show sv G l true = -(vB G l) from rfl, if_pos (by omega)]
        simp only [if_true]
        congr 2
        all_goals omega
    unfold numE
    rw [hab, hit]
end Go.Proofs.YtlnneellihkdkaaDoor.D
