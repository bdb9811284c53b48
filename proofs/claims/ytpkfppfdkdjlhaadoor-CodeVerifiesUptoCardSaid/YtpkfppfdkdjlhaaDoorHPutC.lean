
/- code.Encode's put: numbers' bytes behind the captured bytes. -/
import Derived.Test.YtpkfppfdkdjlhaaDoorHVar
namespace Go.Proofs.YtpkfppfdkdjlhaaDoor.D
open Go Go.Proofs Go.RowKit Go.Proofs.YtpkfppfdkdjlhaaDoorW.PrintWords Go.Proofs.YtpkfppfdkdjlhaaDoorW.PrintLast Go.Proofs.YtpkfppfdkdjlhaaDoorW.PrintMore
set_option linter.unusedVariables false
set_option linter.unusedSimpArgs false

/-- The captured bytes: a block with their slice, and what it leads to. -/
def Buf (W : World) (g : Nat) (l : List Int) : Prop := ∃ A c, W.heap[g]? = some (.cells #[.slice A l.length c] 27 (0, 0)) ∧ Kd.V (Kd.int .u8) 5 W 0 (fun k => g < k) (.slice A l.length c) l
theorem Buf.alloc {W : World} {g : Nat} {l : List Int} (h : Buf W g l) (o : Obj) : Buf (W.alloc o) g l := by
  obtain ⟨A, c, h1, h2⟩ := h
  exact ⟨A, c, blk_alloc h1 o, Kd.V_alloc h2 o⟩
theorem Buf.drew {W : World} {g : Nat} {l : List Int} (h : Buf W g l) : Buf W.drew g l := by
  obtain ⟨A, c, h1, h2⟩ := h
  exact ⟨A, c, blk_drew h1, Kd.V_drew h2⟩
theorem Buf.below {W W' : World} {g : Nat} {l : List Int} (h : Buf W g l) (hb : Below W.heap.size W W') : Buf W' g l := by
  obtain ⟨A, c, h1, h2⟩ := h
  exact ⟨A, c, blk_below h1 hb, Kd.V_below h2 hb⟩
theorem Buf.lt {W : World} {g : Nat} {l : List Int} (h : Buf W g l) : g < W.heap.size := by
  obtain ⟨A, c, h1, h2⟩ := h
  exact blk_lt h1
/-- What a call answers, stored into the block. -/
theorem Buf.store {W W' : World} {g : Nat} {l r : List Int} (h : Buf W g l) (hb : Below W.heap.size W W') {A : Option Addr} {c : Nat} (hr : Kd.R (Kd.int .u8) 5 W' W.heap.size (fun _ => True) (.slice A r.length c) r) : Buf (W'.setCell ⟨g, 0, none⟩ (.slice A r.length c)) g r := by
  have hg := h.lt
  obtain ⟨A0, c0, h1, h2⟩ := h
  exact ⟨A, c, blk_set (blk_below h1 hb) 0 _, Kd.V_far (Kd.V_mono (Kd.R_V (base' := 0) (Kd.R_bound hr)) (fun k hk => by have := hk.2.1; omega)) (fun k hk => by show k ≠ g; omega) _⟩
theorem flat_take (args : List Int) (i : Nat) (h : i < args.length) (l : List Int) : l ++ (args.take i).flatMap varL ++ varL args[i] = l ++ (args.take (i + 1)).flatMap varL := by
  rw [List.take_succ_eq_append_getElem h, List.flatMap_append, List.append_assoc]
  simp
theorem flat_len (args : List Int) : (args.flatMap varL).length ≤ 10 * args.length := by
  induction args with
  | nil => simp
  | cons a l ih => have := varL_len a; simp only [List.flatMap_cons, List.length_append, List.length_cons]; omega

set_option maxRecDepth 100000 in
set_option maxHeartbeats 2000000 in
theorem put_calls (args : List Int) (g ga : Nat) (l : List Int) (hfit : ∀ x ∈ args, x ≤ 9223372036854775807) (hsm : args.length ≤ 1000) (hl : l.length + 10 * args.length ≤ 140737488355328) (c : Nat) (w0 W : World)
    (hg : w0.heap.size ≤ g) (hB : Below w0.heap.size w0 W) (hA : Buf W g l) (ha : W.heap[ga]? = some (.cells (args.map (Value.int .i64)).toArray 3 (0, 0))) (hne : ga ≠ g) :
    Calls Tryd.prog 11 #[.slice (some ⟨ga, 0, none⟩) args.length c, .pointer (some ⟨g, 0, none⟩)] W fun e W' => e = .returned (.tuple #[]) ∧ Below w0.heap.size w0 W' ∧ Buf W' g (l ++ args.flatMap varL) ∧ Kept W W' (fun k => k = g) := by
  have HF := Aside0.mk hfit
  have HB := Aside0.mk hB
  have HA := Aside0.mk hA
  have HG := Aside0.mk ha
  have HL := Aside0.mk hl
  clear hfit hB hA ha hl
  go_enter Tryd.func11, Tryd.ntmps11
  go_wp2_with fail
  go_loopw [7] (fun v7 wr => ∃ i : Nat, v7 = .int .i64 i ∧ Aside0 (i ≤ args.length) ∧ Aside0 (Below w0.heap.size w0 wr) ∧ Aside0 (Buf wr g (l ++ (args.take i).flatMap varL)) ∧ Aside0 (Kept W wr (fun k => k = g))) (fun v7 wr => args.length - (intOf v7).toNat)
  case atStart => exact ⟨0, rfl, ⟨Nat.zero_le _⟩, HB, ⟨by simpa using HA.out⟩, ⟨Kept.refl _ _⟩⟩
  case round =>
    clear HB HA
    obtain ⟨i, rfl, hi, HB, HA, HK⟩ := hrel
    by_cases hlt : i < args.length
    · have hltb : decide ((i : Int) < (args.length : Int)) = true := decide_eq_true (by omega)
      have hbx := blk_kept HG.out HK.out hne
      have hx : wr.cell? ⟨ga, i, none⟩ = some (.int .i64 args[i]) := by
        rw [blk_cell hbx]
        simp [hlt]
      have hfi := HF.out _ (List.getElem_mem hlt)
      obtain ⟨n, hn⟩ : ∃ n, n = args[i] := ⟨_, rfl⟩
      rw [← hn] at hx hfi
      obtain ⟨p, hp⟩ : ∃ p, p = l ++ (args.take i).flatMap varL := ⟨_, rfl⟩
      have hpl : p.length + 10 ≤ 140737488355328 := by
        have h1 := flat_len (args.take i)
        have h2 := HL.out
        rw [hp, List.length_append]
        rw [List.length_take] at h1
        omega
      have hnext : p ++ varL n = l ++ (args.take (i + 1)).flatMap varL := by rw [hp, hn]; exact flat_take args i hlt l
      obtain ⟨k, hk⟩ := (put_ev p n hfi hpl).rounds
      rw [← hp] at HA
      have HGL := Aside0.mk HA.out.lt
      obtain ⟨A, cc, hblk, hV⟩ := HA.out
      have hx1 : wr.cell? ⟨g, 0, none⟩ = some (.slice A p.length cc) := blk_cell hblk 0
      have hfz := blk_frozen hblk 0
      have HV := Aside0.mk (Kd.V_reads' hV)
      have HN := Aside0.mk hnext
      have HKK := Aside0.mk hk
      clear hn hp hnext hk hV hbx hfi
      go_wp2_with fail
      refine (wire_Put.calls k A cc p n _ wr HV.out.2.2 HV.out.2.1 HKK.out).mono ?_
      rintro e w1 ⟨v, rfl, hR, hb⟩
      obtain ⟨A1, c1, rfl⟩ := Kd.R_slice hR
      have HA2 := Aside0.mk (HA.out.store hb hR)
      have HB2 := Aside0.mk (below_step HB.out hb)
      have HK2 := Aside0.mk (HK.out.below hb)
      have hfz1 : w1.frozen? ⟨g, 0, none⟩ = false := blk_frozen (blk_below hblk hb) 0
      have hc1 : w1.cell? ⟨g, 0, none⟩ = some (.slice A p.length cc) := blk_cell (blk_below hblk hb) 0

      clear hR hb hblk hx hx1 hfz
      go_wp2_with fail
      go_roundw
      case rel => exact ⟨i + 1, by go_num, ⟨hlt⟩, ⟨HB2.out.setCell hg _⟩, ⟨by have h := HA2.out; rw [List.length_append] at h; rw [← HN.out]; exact h⟩, ⟨HK2.out.setCell (.inl rfl) _⟩⟩
      case measure => simp [intOf]; omega
    · have hltb : decide ((i : Int) < (args.length : Int)) = false := decide_eq_false (by omega)
      have HA3 : Aside0 (Buf wr g (l ++ args.flatMap varL)) := ⟨by have := HA.out; rw [List.take_of_length_le (by omega)] at this; exact this⟩
      clear HA
      go_wp2_with fail
      go_end0
      exact ⟨rfl, HB.out, HA3.out, HK.out⟩
end Go.Proofs.YtpkfppfdkdjlhaaDoor.D
