/- number.divide whole; number.both. number.Quo and number.Rem. -/
import Derived.Test.YtlnneellihkdkaaDoorHDivF
import Derived.Test.YtlnneellihkdkaaDoorHText
import Derived.RegionTactic
import Derived.ChangeAlike
import Derived.BigRegion
namespace Go.Proofs.YtlnneellihkdkaaDoor.D
open Go Go.Proofs Go.RowKit Go.Shelf Go.Proofs.YtlnneellihkdkaaDoorW.PrintWords Go.Proofs.YtlnneellihkdkaaDoorW.PrintLast Go.Proofs.YtlnneellihkdkaaDoorW.PrintMore
set_option linter.unusedVariables false
set_option linter.unusedSimpArgs false

theorem divide_calls (l b : List Int) (hok : OkB G l) (hb : OkB G b) (hlen : l.length ≤ 100000) (hlb : b.length ≤ 100000) (hpos : 0 < vB G b) (A A2 : Option Addr) (c c2 : Nat) (w : World) (hC : Kd.C (Kd.int .u64) w A l.length l) (hc : l.length ≤ c) (hC2 : Kd.C (Kd.int .u64) w A2 b.length b) (hc2 : b.length ≤ c2) :
    Calls Tryd.prog 61 #[.slice A l.length c, .slice A2 b.length c2] w fun e w' => ∃ q r A1 c1 A3 c3, e = .returned (.tuple #[.slice A1 q.length c1, .slice A3 r.length c3]) ∧ Kd.V (Kd.int .u64) 65 w' 0 (fun k => w.heap.size ≤ k) (.slice A1 q.length c1) q ∧ Kd.V (Kd.int .u64) 65 w' 0 (fun k => w.heap.size ≤ k) (.slice A3 r.length c3) r ∧
      (vB G l = vB G b * vB G q + vB G r ∧ 0 ≤ vB G r ∧ vB G r < vB G b ∧ OkB G q ∧ OkB G r ∧ q.length ≤ l.length ∧ r.length ≤ l.length + 1) ∧ Below w.heap.size w w' := by
  rcases Nat.lt_or_ge b.length 2 with h1 | h2
  · have hb1 : ∃ y, b = [y] := by
      match b, h1, hpos with
      | [], _, h => exact absurd h (by simp [vB])
      | [y], _, _ => exact ⟨y, rfl⟩
      | _ :: _ :: _, h, _ => simp at h; omega
    obtain ⟨y, rfl⟩ := hb1
    have hy := hb y (List.mem_singleton.2 rfl)
    have e : vB G [y] = y := by simp [vB]
    rw [e] at hpos ⊢
    refine (divide_one l y hok hlen ⟨by omega, hy.2⟩ A A2 c c2 w hC hc hC2).mono ?_
    rintro e w' ⟨v, q, g, r, rfl, hgw, hV, hg, ⟨f1, f2, f3, f4, f5⟩, hB⟩
    obtain ⟨A1, c1, rfl⟩ := Kd.V_slice hV
    have er : vB G [r] = r := by simp [vB]
    refine ⟨q, [r], A1, c1, some ⟨g, 0, none⟩, 1, rfl, hV, V_blk (qs := [r]) hg (by simp) (fun k => w.heap.size ≤ k) hgw 65, ⟨by rw [er]; exact f1, by rw [er]; exact f2, by rw [er]; exact f3, f4, fun x hx => ?_, by omega, by simp⟩, hB⟩
    rw [List.mem_singleton.1 hx]
    exact ⟨f2, by omega⟩
  · refine (callsIn_wide.1 (divide_in l b hok hb hlen h2 hlb hpos A A2 c c2 w hC hc hC2 hc2)).mono ?_
    rintro e w' ⟨q, r, g, A3, c3, rfl, hV1, hV2, hr, hqr, hrl, hB⟩
    rw [fold_sm l (vB G b) hok _ (Nat.le_refl _)] at hqr
    simp only [Nat.sub_self, List.replicate_zero, List.nil_append, List.drop_zero] at hqr
    have e1 : q = (smR (vB G b) l).1 := congrArg Prod.fst hqr
    have e2 : vB G r = (smR (vB G b) l).2 := congrArg Prod.snd hqr
    obtain ⟨f1, f2, f3, f4, f5⟩ := smR_all (vB G b) (by omega) l hok
    rw [← e1, ← e2] at f1
    rw [← e2] at f2 f3
    rw [← e1] at f4 f5
    refine ⟨q, r, some ⟨g, 0, none⟩, l.length, A3, c3, by rw [f5], by rw [f5]; exact hV1, hV2, ⟨f1, f2, f3, f4, hr, by omega, by omega⟩, hB⟩

abbrev zeroE : Ending := .panicked [{ v := .iface 27 (.int .i64 92), recovered := false }]
set_option maxRecDepth 100000 in
set_option maxHeartbeats 2000000 in
theorem both_bad_l (a b : ByteArray) (ha : a.size ≤ 9223372036854775807) (hca : N.canU a.data.toList = false) (w : World) :
    Calls Tryd.prog 41 #[.string a, .string b] w fun e w' => e = badE ∧ Below w.heap.size w w' := by
  go_enter Tryd.func41, Tryd.ntmps41
  go_wp2_with (go_at_call 33; with_reducible refine (parse_bad a ha hca _).mono ?_; rintro e w' ⟨rfl, hB⟩)
  exact ⟨rfl, rfl, (((Below.refl _ w).alloc (Nat.le_refl _) _).alloc (by simp) _).trans (hB.mono (by simp; omega))⟩
set_option maxRecDepth 100000 in
set_option maxHeartbeats 2000000 in
theorem both_bad_r (a b : ByteArray) (ha : a.size ≤ 9223372036854775807) (hb : b.size ≤ 9223372036854775807) (hca : N.canU a.data.toList = true) (hcb : N.canU b.data.toList = false) (w : World) :
    Calls Tryd.prog 41 #[.string a, .string b] w fun e w' => e = badE ∧ Below w.heap.size w w' := by
  go_enter Tryd.func41, Tryd.ntmps41
  go_wp2_with (first
    | (go_at_call 33; with_reducible refine (parse_bad b hb hcb _).mono ?_; rintro e w' ⟨rfl, hB2⟩)
    | (go_at_call 33; with_reducible refine (parse_ok a ha hca _).mono ?_; rintro e w' ⟨A, c, rfl, hV, hB⟩))
  exact ⟨rfl, rfl, (((Below.refl _ w).alloc (Nat.le_refl _) _).alloc (by simp) _).trans ((hB.trans (hB2.mono hB.size)).mono (by simp; omega))⟩
set_option maxRecDepth 100000 in
set_option maxHeartbeats 2000000 in
theorem both_zero (a b : ByteArray) (ha : a.size ≤ 9223372036854775807) (hb : b.size ≤ 9223372036854775807) (hca : N.canU a.data.toList = true) (hcb : N.canU b.data.toList = true) (hz : limbsU b.data.toList = []) (w : World) :
    Calls Tryd.prog 41 #[.string a, .string b] w fun e w' => e = zeroE ∧ Below w.heap.size w w' := by
  have hp : ∀ W, Calls Tryd.prog 33 #[.string b] W fun e w' => ∃ A c, e = .returned (.agg #[.slice A 0 c, .bool (negU b.data.toList)]) ∧ Below W.heap.size W w' := fun W => by
    refine (parse_ok b hb hcb W).mono ?_
    rintro e w' ⟨A, c, rfl, _, h⟩
    exact ⟨A, c, by rw [hz]; rfl, h⟩
  have HP := Aside0.mk hp
  clear hp hz
  go_enter Tryd.func41, Tryd.ntmps41
  go_wp2_with (first
    | (go_at_call 33; with_reducible refine (HP.out _).mono ?_; rintro e w' ⟨A2, c2, rfl, hB2⟩)
    | (go_at_call 33; with_reducible refine (parse_ok a ha hca _).mono ?_; rintro e w' ⟨A, c, rfl, hV, hB⟩))
  have hpan : ∀ W, (Instr.panic (.iface 27 (.int .i64 92))).run Tryd.prog W = .halt (.panic (.iface 27 (.int .i64 92))) W := fun _ => rfl
  rw [hpan]
  simp only [Result.andThen]
  rw [Oper.upon_panic]
  go_wp2
  have hB12 := hB.trans (hB2.mono hB.size)
  have hb0 := (((Below.refl w.heap.size w).alloc (Nat.le_refl _) (.cells #[.slice none 0 0, .bool false] 45)).alloc (by simp) (.cells #[.slice none 0 0, .bool false] 45)).trans (hB12.mono (by simp; omega))
  exact ⟨rfl, rfl, (hb0.alloc hb0.size _).alloc (by have := hb0.size; simp; omega) _⟩

/-- What number.both's parts say. -/
def BothFacts (x y : Int) (q r : List Int) : Prop := vB G q = x / y ∧ vB G r = x % y ∧ OkB G q ∧ OkB G r ∧ q.length ≤ 1000 ∧ r.length ≤ 1000
set_option maxRecDepth 100000 in
set_option maxHeartbeats 4000000 in
theorem both_ok (a b : ByteArray) (ha : a.size ≤ 9223372036854775807) (hb : b.size ≤ 9223372036854775807) (hca : N.canU a.data.toList = true) (hcb : N.canU b.data.toList = true) (hnz : limbsU b.data.toList ≠ []) (w : World) :
    Calls Tryd.prog 41 #[.string a, .string b] w fun e w' => ∃ q r A1 c1 A3 c3, e = .returned (.tuple #[.agg #[.slice A1 q.length c1, .bool (negU a.data.toList != negU b.data.toList)], .agg #[.slice A3 r.length c3, .bool (negU a.data.toList)]]) ∧ Kd.V (Kd.int .u64) 65 w' 0 (fun _ => True) (.slice A1 q.length c1) q ∧ Kd.V (Kd.int .u64) 65 w' 0 (fun _ => True) (.slice A3 r.length c3) r ∧
      BothFacts (vB G (limbsU a.data.toList)) (vB G (limbsU b.data.toList)) q r ∧ Below w.heap.size w w' := by
  obtain ⟨la1, la2, la3, la4⟩ := limbs_val hca
  obtain ⟨lb1, lb2, lb3, lb4⟩ := limbs_val hcb
  have hposb : 0 < vB G (limbsU b.data.toList) := by
    have h1 := vB_take G (limbsU b.data.toList) ((limbsU b.data.toList).length - 1)
    have hl := List.length_pos_iff.2 hnz
    rw [show (limbsU b.data.toList).length - 1 + 1 = (limbsU b.data.toList).length by omega, List.take_of_length_le (Nat.le_refl _)] at h1
    have h2 := vB_bounds G (by decide) _ (OkB_take lb2 ((limbsU b.data.toList).length - 1))
    have h3 := getD_ok (by decide : 1 ≤ G) lb2 ((limbsU b.data.toList).length - 1)
    have h4 := lb4 hnz
    have h5 := pow_ge1 G (by decide) ((limbsU b.data.toList).length - 1)
    have h6 : G ^ ((limbsU b.data.toList).length - 1) * 1 ≤ G ^ ((limbsU b.data.toList).length - 1) * (limbsU b.data.toList).getD ((limbsU b.data.toList).length - 1) 0 := Int.mul_le_mul_of_nonneg_left (by omega) (by omega)
    omega
  have hne0 : ((limbsU b.data.toList).length == 0) = false := by simpa using hnz
  have hne1 : (((limbsU b.data.toList).length : Int) == 0) = false := by simp; exact hnz
  obtain ⟨la, hla⟩ : ∃ l, l = limbsU a.data.toList := ⟨_, rfl⟩
  obtain ⟨lb, hlb⟩ : ∃ l, l = limbsU b.data.toList := ⟨_, rfl⟩
  obtain ⟨na, hna⟩ : ∃ n, n = negU a.data.toList := ⟨_, rfl⟩
  obtain ⟨nb, hnb⟩ : ∃ n, n = negU b.data.toList := ⟨_, rfl⟩
  have hpa := parse_ok a ha hca
  have hpb := parse_ok b hb hcb
  rw [← hla, ← hna] at hpa
  rw [← hlb, ← hnb] at hpb
  rw [← hla] at la2 la3 ⊢
  rw [← hlb] at lb2 lb3 hposb hne0 hne1 ⊢
  rw [← hna, ← hnb]
  clear hla hlb hna hnb la1 la4 lb1 lb4 hca hcb hnz
  have HPA := Aside0.mk hpa
  have HPB := Aside0.mk hpb
  clear hpa hpb
  go_enter Tryd.func41, Tryd.ntmps41
  go_wp2_with (first
    | (go_at_call 33; with_reducible refine (HPA.out _).mono ?_; rintro e w1 ⟨A, c, rfl, hV, hB⟩)
    | (go_at_call 33; with_reducible refine (HPB.out _).mono ?_; rintro e w2 ⟨A2, c2, rfl, hV2, hB2⟩)
    | (go_at_call 61
       have hb0 := two_new w2 (.cells #[.slice A la.length c, .bool na] 45) (.cells #[.slice A2 lb.length c2, .bool nb] 45)
       have hVa := Kd.V_reads' (Kd.V_below (Kd.V_below hV hB2) hb0)
       have hVb := Kd.V_reads' (Kd.V_below hV2 hb0)
       refine (divide_calls la lb la2 lb2 (by omega) (by omega) hposb A A2 c c2 _ hVa.2.2 hVa.2.1 hVb.2.2 hVb.2.1).mono ?_
       rintro e w3 ⟨q, r, A1, c1, A3, c3, rfl, hq, hr, hf, hB3⟩
       clear hVa hVb hV hV2
       have hs1 := hB.size
       have hs2 := hB2.size
       simp only [World.size_alloc] at hs1
       have x6 : w3.heap[w2.heap.size]? = some (.cells #[.slice A la.length c, .bool na] 45 (0, 0)) := blk_below (blk_alloc (blk_new w2 _) _) hB3
       have x7 : w3.heap[w2.heap.size + 1]? = some (.cells #[.slice A2 lb.length c2, .bool nb] 45 (0, 0)) := blk_below (by have := blk_new (w2.alloc (.cells #[.slice A la.length c, .bool na] 45)) (.cells #[.slice A2 lb.length c2, .bool nb] 45); simpa using this) hB3
       have hB02 := hB.trans (hB2.mono hB.size)
       have hB03 := (hB02.trans (hb0.mono hB02.size)).trans (hB3.mono (by have := hB02.size; simp at this ⊢; omega))
       have x4 : w3.heap[w.heap.size]? = some (.cells #[.slice none 0 0, .bool false] 45 (0, 0)) := blk_below (blk_alloc (blk_new w _) _) hB03
       have x5 : w3.heap[w.heap.size + 1]? = some (.cells #[.slice none 0 0, .bool false] 45 (0, 0)) := blk_below (by have := blk_new (w.alloc (.cells #[.slice none 0 0, .bool false] 45)) (.cells #[.slice none 0 0, .bool false] 45); simpa using this) hB03
       have y61 : w3.cell? ⟨w2.heap.size, 1, none⟩ = some (.bool na) := blk_cell x6 1
       have y71 : w3.cell? ⟨w2.heap.size + 1, 1, none⟩ = some (.bool nb) := blk_cell x7 1
       have y40 : w3.cell? ⟨w.heap.size, 0, none⟩ = some (.slice none 0 0) := blk_cell x4 0
       have y41 : w3.cell? ⟨w.heap.size, 1, none⟩ = some (.bool false) := blk_cell x4 1
       have y50 : w3.cell? ⟨w.heap.size + 1, 0, none⟩ = some (.slice none 0 0) := blk_cell x5 0
       have y51 : w3.cell? ⟨w.heap.size + 1, 1, none⟩ = some (.bool false) := blk_cell x5 1
       have z40 := blk_frozen x4 0
       have z41 := blk_frozen x4 1
       have z50 := blk_frozen x5 0
       have z51 := blk_frozen x5 1
       have X4 := Aside0.mk x4
       have X6 := Aside0.mk x6
       have X7 := Aside0.mk x7
       have X5 := Aside0.mk x5
       have HF := Aside0.mk hf
       have hB03' := (((Below.refl w.heap.size w).alloc (Nat.le_refl _) (.cells #[.slice none 0 0, .bool false] 45)).alloc (by simp) (.cells #[.slice none 0 0, .bool false] 45)).trans (hB03.mono (by simp; omega))
       clear x4 x5 x6 x7 hf hb0))
  refine region_plain (S := fun w' => w'.cell? ⟨w2.heap.size, 1, none⟩ = some (.bool na) ∧ w'.cell? ⟨w2.heap.size + 1, 1, none⟩ = some (.bool nb)) (by kernel_rfl) ⟨y61, y71⟩ (fun hHeld => ?_)
  refine wpAnyH_take (i := 0) (v := ?_) rfl (by kernel_rfl) (by kernel_rfl) (by kernel_rfl) quietQ (Or.inl ⟨by rfl, ?_⟩) (by assumption) ?_
  rotate_left
  · intro w hSw; (try dsimp only at hSw); go_simp
    all_goals with_reducible rfl
  try simp only [List.getElem_toArray, List.getElem_cons_succ, List.getElem_cons_zero, Act.put, List.setIfInBounds_toArray, List.set_cons_zero, List.set_cons_succ]
  refine wpAnyH_take (i := 1) (v := ?_) rfl (by kernel_rfl) (by kernel_rfl) (by kernel_rfl) quietQ (Or.inl ⟨by rfl, ?_⟩) (by assumption) ?_
  rotate_left
  · intro w hSw; (try dsimp only at hSw); go_simp
    all_goals with_reducible rfl
  try simp only [List.getElem_toArray, List.getElem_cons_succ, List.getElem_cons_zero, Act.put, List.setIfInBounds_toArray, List.set_cons_zero, List.set_cons_succ]
  refine wpAnyH_take (i := 2) (v := ?_) rfl (by kernel_rfl) (by kernel_rfl) (by kernel_rfl) quietQ (Or.inl ⟨by rfl, ?_⟩) (by assumption) ?_
  rotate_left
  · intro w hSw; (try dsimp only at hSw); go_simp
    all_goals with_reducible rfl
  try simp only [List.getElem_toArray, List.getElem_cons_succ, List.getElem_cons_zero, Act.put, List.setIfInBounds_toArray, List.set_cons_zero, List.set_cons_succ]
  refine wpAnyH_take (i := 3) (v := ?_) rfl (by kernel_rfl) (by kernel_rfl) (by kernel_rfl) quietQ (Or.inl ⟨by rfl, ?_⟩) (by assumption) ?_
  rotate_left
  · intro w hSw; (try dsimp only at hSw); go_simp
    all_goals with_reducible rfl
  try simp only [List.getElem_toArray, List.getElem_cons_succ, List.getElem_cons_zero, Act.put, List.setIfInBounds_toArray, List.set_cons_zero, List.set_cons_succ]
  refine wpAnyH_take (i := 4) (v := ?_) rfl (by kernel_rfl) (by kernel_rfl) (by kernel_rfl) quietQ (Or.inl ⟨by rfl, ?_⟩) (by assumption) ?_
  rotate_left
  · intro w hSw; (try dsimp only at hSw); go_simp
    all_goals with_reducible rfl
  try simp only [List.getElem_toArray, List.getElem_cons_succ, List.getElem_cons_zero, Act.put, List.setIfInBounds_toArray, List.set_cons_zero, List.set_cons_succ]
  refine wpAnyH_take (i := 5) (v := ?_) rfl (by kernel_rfl) (by kernel_rfl) (by kernel_rfl) quietQ (Or.inl ⟨by rfl, ?_⟩) (by assumption) ?_
  rotate_left
  · intro w hSw; (try dsimp only at hSw); go_simp
    all_goals with_reducible rfl
  try simp only [List.getElem_toArray, List.getElem_cons_succ, List.getElem_cons_zero, Act.put, List.setIfInBounds_toArray, List.set_cons_zero, List.set_cons_succ]
  refine wpAnyH_take (i := 6) (v := ?_) rfl (by kernel_rfl) (by kernel_rfl) (by kernel_rfl) quietQ (Or.inl ⟨by rfl, ?_⟩) (by assumption) ?_
  rotate_left
  · intro w hSw; (try dsimp only at hSw); go_simp
    all_goals with_reducible rfl
  try simp only [List.getElem_toArray, List.getElem_cons_succ, List.getElem_cons_zero, Act.put, List.setIfInBounds_toArray, List.set_cons_zero, List.set_cons_succ]
  refine wpAnyH_take (i := 7) (v := ?_) rfl (by kernel_rfl) (by kernel_rfl) (by kernel_rfl) quietQ (Or.inl ⟨by rfl, ?_⟩) (by assumption) ?_
  rotate_left
  · intro w hSw; (try dsimp only at hSw); go_simp
    all_goals with_reducible rfl
  try simp only [List.getElem_toArray, List.getElem_cons_succ, List.getElem_cons_zero, Act.put, List.setIfInBounds_toArray, List.set_cons_zero, List.set_cons_succ]
  refine wpAnyH_take (i := 8) (v := ?_) rfl (by kernel_rfl) (by kernel_rfl) (by kernel_rfl) quietQ (Or.inl ⟨by rfl, ?_⟩) (by assumption) ?_
  rotate_left
  · intro w hSw; (try dsimp only at hSw); go_simp
    all_goals with_reducible rfl
  try simp only [List.getElem_toArray, List.getElem_cons_succ, List.getElem_cons_zero, Act.put, List.setIfInBounds_toArray, List.set_cons_zero, List.set_cons_succ]
  refine wpAnyH_take (i := 9) (v := ?_) rfl (by kernel_rfl) (by kernel_rfl) (by kernel_rfl) quietQ (Or.inl ⟨by rfl, ?_⟩) (by assumption) ?_
  rotate_left
  · intro w hSw; (try dsimp only at hSw); go_simp
    all_goals with_reducible rfl
  try simp only [List.getElem_toArray, List.getElem_cons_succ, List.getElem_cons_zero, Act.put, List.setIfInBounds_toArray, List.set_cons_zero, List.set_cons_succ]
  refine wpAnyH_take (i := 10) (v := ?_) rfl (by kernel_rfl) (by kernel_rfl) (by kernel_rfl) quietQ (Or.inl ⟨by rfl, ?_⟩) (by assumption) ?_
  rotate_left
  · intro w hSw; (try dsimp only at hSw); go_simp
    all_goals with_reducible rfl
  try simp only [List.getElem_toArray, List.getElem_cons_succ, List.getElem_cons_zero, Act.put, List.setIfInBounds_toArray, List.set_cons_zero, List.set_cons_succ]
  refine wpAnyH_ready (rs := [11]) (by kernel_rfl) (by simp) ?_
  refine AllReadyH.cons rfl (fun K hK => ?_) AllReadyH.nil
  go_simp
  refine hK.out _ _ ⟨blk_cell (blk_far (p := ⟨w.heap.size, 1, none⟩) (blk_far (p := ⟨w.heap.size, 0, none⟩) X6.out (by simp; omega) (Value.slice A1 q.length c1)) (by simp; omega) (Value.bool (!na == nb))) 1, blk_cell (blk_far (p := ⟨w.heap.size, 1, none⟩) (blk_far (p := ⟨w.heap.size, 0, none⟩) X7.out (by simp; omega) (Value.slice A1 q.length c1)) (by simp; omega) (Value.bool (!na == nb))) 1⟩ (fun hHeld2 => ?_)
  clear hK K hHeld
  try simp only [List.getElem_toArray, List.getElem_cons_succ, List.getElem_cons_zero, Act.put, List.setIfInBounds_toArray, List.set_cons_zero, List.set_cons_succ]
  have q4 := blk_put (blk_put X4.out 0 (Value.slice A1 q.length c1) rfl) 1 (Value.bool (!na == nb)) rfl
  have q5 : ((w3.setCell ⟨w.heap.size, 0, none⟩ (Value.slice A1 q.length c1)).setCell ⟨w.heap.size, 1, none⟩ (Value.bool (!na == nb))).heap[w.heap.size + 1]? = some (.cells #[.slice none 0 0, .bool false] 45 (0, 0)) := blk_far (p := ⟨w.heap.size, 1, none⟩) (blk_far (p := ⟨w.heap.size, 0, none⟩) X5.out (by simp) _) (by simp) _
  have q6 := (blk_far (p := ⟨w.heap.size, 1, none⟩) (blk_far (p := ⟨w.heap.size, 0, none⟩) X6.out (by simp; omega) (Value.slice A1 q.length c1)) (by simp; omega) (Value.bool (!na == nb)))
  have q7 := (blk_far (p := ⟨w.heap.size, 1, none⟩) (blk_far (p := ⟨w.heap.size, 0, none⟩) X7.out (by simp; omega) (Value.slice A1 q.length c1)) (by simp; omega) (Value.bool (!na == nb)))
  have hkeep : ∀ k, w2.heap.size ≤ k → k < w3.heap.size → ((w3.setCell ⟨w.heap.size, 0, none⟩ (Value.slice A1 q.length c1)).setCell ⟨w.heap.size, 1, none⟩ (Value.bool (!na == nb))).heap[k]? = w3.heap[k]? := fun k hk _ => (Below.heap_setCell _ _ _ _ (by simp; omega)).trans (Below.heap_setCell _ _ _ _ (by simp; omega))
  have hbel4 := (hB03'.setCell (p := ⟨w.heap.size, 0, none⟩) (Nat.le_refl _) (Value.slice A1 q.length c1)).setCell (p := ⟨w.heap.size, 1, none⟩) (Nat.le_refl _) (Value.bool (!na == nb))
  generalize hW4 : (w3.setCell ⟨w.heap.size, 0, none⟩ (Value.slice A1 q.length c1)).setCell ⟨w.heap.size, 1, none⟩ (Value.bool (!na == nb)) = W4 at *
  have r50 : W4.cell? ⟨w.heap.size + 1, 0, none⟩ = some (.slice none 0 0) := blk_cell q5 0
  have r51 : W4.cell? ⟨w.heap.size + 1, 1, none⟩ = some (.bool false) := blk_cell q5 1
  have t50 := blk_frozen q5 0
  have t51 := blk_frozen q5 1
  refine wpAnyH_ready (rs := [12]) (by kernel_rfl) (by simp) ?_
  refine AllReadyH.cons rfl (fun K hK => ?_) AllReadyH.nil
  go_simp
  refine hK.out _ _ ⟨blk_cell (blk_far (p := ⟨w.heap.size + 1, 1, none⟩) (blk_far (p := ⟨w.heap.size + 1, 0, none⟩) q6 (by simp; omega) _) (by simp; omega) _) 1, blk_cell (blk_far (p := ⟨w.heap.size + 1, 1, none⟩) (blk_far (p := ⟨w.heap.size + 1, 0, none⟩) q7 (by simp; omega) _) (by simp; omega) _) 1⟩ (fun hHeld3 => ?_)
  have p4 : ((W4.setCell ⟨w.heap.size + 1, 0, none⟩ (Value.slice A3 r.length c3)).setCell ⟨w.heap.size + 1, 1, none⟩ (Value.bool na)).heap[w.heap.size]? = some (.cells #[.slice A1 q.length c1, .bool (!na == nb)] 45 (0, 0)) := blk_far (p := ⟨w.heap.size + 1, 1, none⟩) (blk_far (p := ⟨w.heap.size + 1, 0, none⟩) q4 (by simp) _) (by simp) _
  have p5 := blk_put (blk_put q5 0 (Value.slice A3 r.length c3) rfl) 1 (Value.bool na) rfl
  have hkeep5 : ∀ k, w2.heap.size ≤ k → k < w3.heap.size → ((W4.setCell ⟨w.heap.size + 1, 0, none⟩ (Value.slice A3 r.length c3)).setCell ⟨w.heap.size + 1, 1, none⟩ (Value.bool na)).heap[k]? = w3.heap[k]? := fun k hk hl => (Below.heap_setCell _ _ _ _ (by simp; omega)).trans ((Below.heap_setCell _ _ _ _ (by simp; omega)).trans (hkeep k hk hl))
  have hbel5 := (hbel4.setCell (p := ⟨w.heap.size + 1, 0, none⟩) (Nat.le_succ _) (Value.slice A3 r.length c3)).setCell (p := ⟨w.heap.size + 1, 1, none⟩) (Nat.le_succ _) (Value.bool na)
  generalize ((W4.setCell ⟨w.heap.size + 1, 0, none⟩ (Value.slice A3 r.length c3)).setCell ⟨w.heap.size + 1, 1, none⟩ (Value.bool na)) = W5 at *
  refine wpAnyH_done (by kernel_rfl) ?_ _
  refine And.intro rfl ?_
  have e40 : W5.cell? ⟨w.heap.size, 0, none⟩ = some (.slice A1 q.length c1) := blk_cell p4 0
  have e41 : W5.cell? ⟨w.heap.size, 1, none⟩ = some (.bool (!na == nb)) := blk_cell p4 1
  have e50 : W5.cell? ⟨w.heap.size + 1, 0, none⟩ = some (.slice A3 r.length c3) := blk_cell p5 0
  have e51 : W5.cell? ⟨w.heap.size + 1, 1, none⟩ = some (.bool na) := blk_cell p5 1
  go_wp2
  refine bodyPost_ret (v := .tuple #[.agg #[.slice A1 q.length c1, .bool (!na == nb)], .agg #[.slice A3 r.length c3, .bool na]]) (by simp [results, Tryd.results41, go_sem, e40, e41, e50, e51]) rfl ?_
  obtain ⟨f1, f2, f3, f4, f5, f6, f7⟩ := HF.out
  have hqr : vB G la / vB G lb = vB G q ∧ vB G la % vB G lb = vB G r := (Int.ediv_emod_unique hposb).2 ⟨by omega, f2, f3⟩
  have hsz2 : w2.heap.size ≤ w2.heap.size + 2 := Nat.le_add_right _ _
  refine ⟨q, r, A1, c1, A3, c3, rfl, Kd.V_mono (Kd.V_step (W := w3) hq (fun k hk hl => hkeep5 k (by simp at hk; omega) hl)) (fun _ _ => trivial), Kd.V_mono (Kd.V_step (W := w3) hr (fun k hk hl => hkeep5 k (by simp at hk; omega) hl)) (fun _ _ => trivial), ⟨hqr.1.symm, hqr.2.symm, f4, f5, by omega, by omega⟩, below_drew1 hbel5⟩
end Go.Proofs.YtlnneellihkdkaaDoor.D
namespace Go.Proofs.YtlnneellihkdkaaDoor.D
open Go Go.Proofs Go.RowKit Go.Shelf Go.Proofs.YtlnneellihkdkaaDoorW.PrintWords Go.Proofs.YtlnneellihkdkaaDoorW.PrintLast Go.Proofs.YtlnneellihkdkaaDoorW.PrintMore
set_option linter.unusedVariables false
set_option linter.unusedSimpArgs false

/-- A quotient or a rest: none where one is no number, some none where the divisor is nought. -/
def partO (f : Int → Int → Int) (a b : ByteArray) : Option (Option Int) := (valO a).bind fun x => (valO b).map fun y => if y = 0 then none else some (f x y)
def ansQ : Option (Option Int) → Value
  | none => .tuple #[.string ⟨#[]⟩, .int .i64 90]
  | some none => .tuple #[.string ⟨#[]⟩, .int .i64 92]
  | some (some z) => ansV (some z)
theorem partO_none {f : Int → Int → Int} {a b : ByteArray} (h : N.canU a.data.toList = false ∨ N.canU b.data.toList = false) : partO f a b = none := by
  unfold partO
  rcases h with h | h
  · rw [show valO a = none by simp [valO, h]]; rfl
  · rw [show valO b = none by simp [valO, h]]
    cases valO a <;> rfl
theorem limbs_nil {b : ByteArray} (hcb : N.canU b.data.toList = true) : limbsU b.data.toList = [] ↔ N.valU b.data.toList = 0 := by
  obtain ⟨l1, l2, l3, l4⟩ := limbs_val hcb
  have hs := sv_val hcb
  constructor
  · intro h
    rw [← hs, h]
    cases negU b.data.toList <;> simp [sv, vB]
  · intro h
    rw [h] at hs
    have h0 : vB G (limbsU b.data.toList) = 0 := by
      unfold sv at hs
      split at hs <;> omega
    rcases Nat.eq_zero_or_pos (limbsU b.data.toList).length with hz | hl
    · exact List.length_eq_zero_iff.1 hz
    · exfalso
      have h1 := vB_take G (limbsU b.data.toList) ((limbsU b.data.toList).length - 1)
      rw [show (limbsU b.data.toList).length - 1 + 1 = (limbsU b.data.toList).length by omega, List.take_of_length_le (Nat.le_refl _)] at h1
      have h2 := vB_bounds G (by decide) _ (OkB_take l2 ((limbsU b.data.toList).length - 1))
      have h3 := getD_ok (by decide : 1 ≤ G) l2 ((limbsU b.data.toList).length - 1)
      have h4 := l4 (List.length_pos_iff.1 hl)
      have h5 := pow_ge1 G (by decide) ((limbsU b.data.toList).length - 1)
      have h6 : G ^ ((limbsU b.data.toList).length - 1) * 1 ≤ G ^ ((limbsU b.data.toList).length - 1) * (limbsU b.data.toList).getD ((limbsU b.data.toList).length - 1) 0 := Int.mul_le_mul_of_nonneg_left (by omega) (by omega)
      omega
theorem partO_zero {f : Int → Int → Int} {a b : ByteArray} (ha : N.canU a.data.toList = true) (hb : N.canU b.data.toList = true) (hz : limbsU b.data.toList = []) : partO f a b = some none := by
  have := (limbs_nil hb).1 hz
  simp [partO, valO, ha, hb, this]
theorem partO_some (f : Int → Int → Int) {a b : ByteArray} (ha : N.canU a.data.toList = true) (hb : N.canU b.data.toList = true) (hz : limbsU b.data.toList ≠ []) : partO f a b = some (some (f (N.valU a.data.toList) (N.valU b.data.toList))) := by
  have h : N.valU b.data.toList ≠ 0 := fun h => hz ((limbs_nil hb).2 h)
  simp [partO, valO, ha, hb, h]
theorem tdiv_abs (x y : Int) : (Int.tdiv x y).natAbs ≤ x.natAbs := by rw [Int.natAbs_tdiv]; exact Nat.div_le_self _ _
theorem tmod_abs (x y : Int) : (Int.tmod x y).natAbs ≤ x.natAbs := by rw [Int.natAbs_tmod]; exact Nat.mod_le _ _
theorem quo_val {a b : ByteArray} (hca : N.canU a.data.toList = true) (hcb : N.canU b.data.toList = true) (hz : limbsU b.data.toList ≠ []) {q r : List Int} (hf : BothFacts (vB G (limbsU a.data.toList)) (vB G (limbsU b.data.toList)) q r) :
    sv G q (negU a.data.toList != negU b.data.toList) = Int.tdiv (N.valU a.data.toList) (N.valU b.data.toList) := by
  have ba := vB_bounds G (by decide) _ (limbs_val hca).2.1
  have bb := vB_bounds G (by decide) _ (limbs_val hcb).2.1
  rw [← sv_val hca, ← sv_val hcb]
  unfold sv
  rw [hf.1]
  cases negU a.data.toList <;> cases negU b.data.toList <;> simp [Int.neg_tdiv, Int.tdiv_neg, Int.tdiv_eq_ediv_of_nonneg ba.1]
theorem rem_val {a b : ByteArray} (hca : N.canU a.data.toList = true) (hcb : N.canU b.data.toList = true) (hz : limbsU b.data.toList ≠ []) {q r : List Int} (hf : BothFacts (vB G (limbsU a.data.toList)) (vB G (limbsU b.data.toList)) q r) :
    sv G r (negU a.data.toList) = Int.tmod (N.valU a.data.toList) (N.valU b.data.toList) := by
  have ba := vB_bounds G (by decide) _ (limbs_val hca).2.1
  have bb := vB_bounds G (by decide) _ (limbs_val hcb).2.1
  rw [← sv_val hca, ← sv_val hcb]
  unfold sv
  rw [hf.2.1]
  cases negU a.data.toList <;> cases negU b.data.toList <;> simp [Int.neg_tmod, Int.tmod_neg, Int.tmod_eq_emod_of_nonneg ba.1]

set_option maxRecDepth 100000 in
set_option maxHeartbeats 2000000 in
theorem quo_calls (a b : ByteArray) (ha : a.size ≤ 9223372036854775807) (hb : b.size ≤ 9223372036854775807) (w : World) (hL : LaidW w) :
    Calls Tryd.prog 22 #[.string a, .string b] w fun e w' => e = .returned (ansQ (partO Int.tdiv a b)) ∧ Below w.heap.size w w' := by
  have HL := Aside0.mk hL
  clear hL
  cases hca : N.canU a.data.toList
  · go_enter_defers Tryd.func22, Tryd.ntmps22
    go_wp2_with (go_at_call 41; with_reducible refine (both_bad_l a b ha hca _).mono ?_; rintro e w' ⟨rfl, hB⟩)
    obtain ⟨hs, he, hBw⟩ := door_new hB
    rw [partO_none (.inl hca)]
    exact door_panic _ rfl _ w.heap.size rfl rfl _ hs he 90 _ (fun W' hW => ⟨rfl, hBw.trans hW⟩)
  cases hcb : N.canU b.data.toList
  · go_enter_defers Tryd.func22, Tryd.ntmps22
    go_wp2_with (go_at_call 41; with_reducible refine (both_bad_r a b ha hb hca hcb _).mono ?_; rintro e w' ⟨rfl, hB⟩)
    obtain ⟨hs, he, hBw⟩ := door_new hB
    rw [partO_none (.inr hcb)]
    exact door_panic _ rfl _ w.heap.size rfl rfl _ hs he 90 _ (fun W' hW => ⟨rfl, hBw.trans hW⟩)
  by_cases hz : limbsU b.data.toList = []
  · go_enter_defers Tryd.func22, Tryd.ntmps22
    go_wp2_with (go_at_call 41; with_reducible refine (both_zero a b ha hb hca hcb hz _).mono ?_; rintro e w' ⟨rfl, hB⟩)
    obtain ⟨hs, he, hBw⟩ := door_new hB
    rw [partO_zero hca hcb hz]
    exact door_panic _ rfl _ w.heap.size rfl rfl _ hs he 92 _ (fun W' hW => ⟨rfl, hBw.trans hW⟩)
  have hbo := both_ok a b ha hb hca hcb hz
  obtain ⟨z, hzz⟩ : ∃ z, z = Int.tdiv (N.valU a.data.toList) (N.valU b.data.toList) := ⟨_, rfl⟩
  have hans := partO_some Int.tdiv hca hcb hz
  rw [← hzz] at hans
  have hdig : (Lib.decDigits z.natAbs).length ≤ 200 := N.dec_len _ 200 (by omega) (Nat.lt_of_le_of_lt (by rw [hzz]; exact tdiv_abs _ _) (N.val_abs hca))
  have hsv : ∀ q r : List Int, BothFacts (vB G (limbsU a.data.toList)) (vB G (limbsU b.data.toList)) q r → sv G q (negU a.data.toList != negU b.data.toList) = z := fun q r hf => by rw [hzz]; exact quo_val hca hcb hz hf
  rw [hans, show ansQ (some (some z)) = .tuple #[.string (baU (Lib.itoa z)), .int .i64 0] from ansV_ok hdig]
  have HNUM := Aside0.mk (show numE z = .returned (.string (baU (Lib.itoa z))) from if_pos hdig)
  have HBO := Aside0.mk hbo
  have HSV := Aside0.mk hsv
  clear hbo hsv hans hdig hzz hz
  generalize Lib.itoa z = it at *
  generalize N.valU a.data.toList = va at *
  clear hca hcb
  go_enter_defers Tryd.func22, Tryd.ntmps22
  go_wp2_with (first
    | (go_at_call 41; with_reducible refine (HBO.out _).mono ?_; rintro e w1 ⟨q, r, A1, c1, A3, c3, rfl, hq, hr, hf, hB⟩
       have hsn := HSV.out q r hf
       have HSN := Aside0.mk hsn
       have hok := hf.2.2.1
       have hok2 := hf.2.2.2.1
       have hl1 := hf.2.2.2.2.1
       have hl2 := hf.2.2.2.2.2
       clear hsn hf)
    | (go_at_call 34
       have hb0 := two_new w1 (.cells #[.slice A1 q.length c1, .bool (negU a.data.toList != negU b.data.toList)] 45) (.cells #[.slice A3 r.length c3, .bool (negU a.data.toList)] 45)
       have hB0 := hB.trans (hb0.mono hB.size)
       have hLw := HL.out.below (door_new hB0).2.2 (Nat.le_refl _)
       refine (text_R q _ hok hl1 _ hLw (Kd.V_below hq hb0)).mono ?_; rintro e w4 ⟨he4, hB4⟩; rw [HSN.out, HNUM.out] at he4; subst he4
       have hd := door_new (hB0.trans (hB4.mono hB0.size))
       have c0 := blk_cell hd.1 0
       have c1 := blk_cell hd.2.1 0
       have f0 := blk_frozen hd.1 0
       have f1 := blk_frozen hd.2.1 0
       simp only [List.getElem?_toArray, List.getElem?_cons_zero] at c0 c1))
  exact door_ok _ rfl _ w.heap.size rfl rfl _ _ _ (blk_far (set_cell_at hd.1) (by simp) _) (set_cell_at (blk_far hd.2.1 (by simp) _)) _ ⟨rfl, (hd.2.2.setCell (p := ⟨w.heap.size, 0, none⟩) (Nat.le_refl _) _).setCell (p := ⟨w.heap.size + 1, 0, none⟩) (Nat.le_succ _) _⟩

set_option maxRecDepth 100000 in
set_option maxHeartbeats 2000000 in
theorem rem_calls (a b : ByteArray) (ha : a.size ≤ 9223372036854775807) (hb : b.size ≤ 9223372036854775807) (w : World) (hL : LaidW w) :
    Calls Tryd.prog 24 #[.string a, .string b] w fun e w' => e = .returned (ansQ (partO Int.tmod a b)) ∧ Below w.heap.size w w' := by
  have HL := Aside0.mk hL
  clear hL
  cases hca : N.canU a.data.toList
  · go_enter_defers Tryd.func24, Tryd.ntmps24
    go_wp2_with (go_at_call 41; with_reducible refine (both_bad_l a b ha hca _).mono ?_; rintro e w' ⟨rfl, hB⟩)
    obtain ⟨hs, he, hBw⟩ := door_new hB
    rw [partO_none (.inl hca)]
    exact door_panic _ rfl _ w.heap.size rfl rfl _ hs he 90 _ (fun W' hW => ⟨rfl, hBw.trans hW⟩)
  cases hcb : N.canU b.data.toList
  · go_enter_defers Tryd.func24, Tryd.ntmps24
    go_wp2_with (go_at_call 41; with_reducible refine (both_bad_r a b ha hb hca hcb _).mono ?_; rintro e w' ⟨rfl, hB⟩)
    obtain ⟨hs, he, hBw⟩ := door_new hB
    rw [partO_none (.inr hcb)]
    exact door_panic _ rfl _ w.heap.size rfl rfl _ hs he 90 _ (fun W' hW => ⟨rfl, hBw.trans hW⟩)
  by_cases hz : limbsU b.data.toList = []
  · go_enter_defers Tryd.func24, Tryd.ntmps24
    go_wp2_with (go_at_call 41; with_reducible refine (both_zero a b ha hb hca hcb hz _).mono ?_; rintro e w' ⟨rfl, hB⟩)
    obtain ⟨hs, he, hBw⟩ := door_new hB
    rw [partO_zero hca hcb hz]
    exact door_panic _ rfl _ w.heap.size rfl rfl _ hs he 92 _ (fun W' hW => ⟨rfl, hBw.trans hW⟩)
  have hbo := both_ok a b ha hb hca hcb hz
  obtain ⟨z, hzz⟩ : ∃ z, z = Int.tmod (N.valU a.data.toList) (N.valU b.data.toList) := ⟨_, rfl⟩
  have hans := partO_some Int.tmod hca hcb hz
  rw [← hzz] at hans
  have hdig : (Lib.decDigits z.natAbs).length ≤ 200 := N.dec_len _ 200 (by omega) (Nat.lt_of_le_of_lt (by rw [hzz]; exact tmod_abs _ _) (N.val_abs hca))
  have hsv : ∀ q r : List Int, BothFacts (vB G (limbsU a.data.toList)) (vB G (limbsU b.data.toList)) q r → sv G r (negU a.data.toList) = z := fun q r hf => by rw [hzz]; exact rem_val hca hcb hz hf
  rw [hans, show ansQ (some (some z)) = .tuple #[.string (baU (Lib.itoa z)), .int .i64 0] from ansV_ok hdig]
  have HNUM := Aside0.mk (show numE z = .returned (.string (baU (Lib.itoa z))) from if_pos hdig)
  have HBO := Aside0.mk hbo
  have HSV := Aside0.mk hsv
  clear hbo hsv hans hdig hzz hz
  generalize Lib.itoa z = it at *
  generalize N.valU a.data.toList = va at *
  clear hca hcb
  go_enter_defers Tryd.func24, Tryd.ntmps24
  go_wp2_with (first
    | (go_at_call 41; with_reducible refine (HBO.out _).mono ?_; rintro e w1 ⟨q, r, A1, c1, A3, c3, rfl, hq, hr, hf, hB⟩
       have hsn := HSV.out q r hf
       have HSN := Aside0.mk hsn
       have hok := hf.2.2.1
       have hok2 := hf.2.2.2.1
       have hl1 := hf.2.2.2.2.1
       have hl2 := hf.2.2.2.2.2
       clear hsn hf)
    | (go_at_call 34
       have hb0 := two_new w1 (.cells #[.slice A1 q.length c1, .bool (negU a.data.toList != negU b.data.toList)] 45) (.cells #[.slice A3 r.length c3, .bool (negU a.data.toList)] 45)
       have hB0 := hB.trans (hb0.mono hB.size)
       have hLw := HL.out.below (door_new hB0).2.2 (Nat.le_refl _)
       refine (text_R r _ hok2 hl2 _ hLw (Kd.V_below hr hb0)).mono ?_; rintro e w4 ⟨he4, hB4⟩; rw [HSN.out, HNUM.out] at he4; subst he4
       have hd := door_new (hB0.trans (hB4.mono hB0.size))
       have c0 := blk_cell hd.1 0
       have c1 := blk_cell hd.2.1 0
       have f0 := blk_frozen hd.1 0
       have f1 := blk_frozen hd.2.1 0
       simp only [List.getElem?_toArray, List.getElem?_cons_zero] at c0 c1))
  exact door_ok _ rfl _ w.heap.size rfl rfl _ _ _ (blk_far (set_cell_at hd.1) (by simp) _) (set_cell_at (blk_far hd.2.1 (by simp) _)) _ ⟨rfl, (hd.2.2.setCell (p := ⟨w.heap.size, 0, none⟩) (Nat.le_refl _) _).setCell (p := ⟨w.heap.size + 1, 0, none⟩) (Nat.le_succ _) _⟩
end Go.Proofs.YtlnneellihkdkaaDoor.D
