
/- code.Hash and the law's own function. -/
import Derived.Test.YtpkfppfdkdjlhaaDoorHEnc
import Derived.Test.YtpkfppfdkdjlhaaDoorHRefZ
import Derived.Test.YtpkfppfdkdjlhaaDoorHSum
namespace Go.Proofs.YtpkfppfdkdjlhaaDoor.D
open Go Go.Proofs Go.RowKit Go.Proofs.YtpkfppfdkdjlhaaDoorW.PrintWords Go.Proofs.YtpkfppfdkdjlhaaDoorW.PrintLast Go.Proofs.YtpkfppfdkdjlhaaDoorW.PrintMore
set_option linter.unusedVariables false
set_option linter.unusedSimpArgs false

theorem halves_below {W W' : World} (h : Halves W) {B : Nat} (hb : Below B W W') (hB : W.heap.size ≤ B) : Halves W' := by
  unfold Halves at *
  exact Go.Joins.var_stays gHalves h hb hB

/-- What the law's bulk gives of a code. -/
structure CodeOk (I : List S40) (D : List S42) (Nm : List ByteArray) : Prop where
  fit : ∀ i : Nat, i < D.length → Fit (rd_T42 D i)
  ns : ∀ s ∈ Nm, s.size + 10 < 140737488355328
  hd : ∀ x ∈ D, (putB x).length ≤ 100000000000000
  hb : (encL I D Nm).length + 100 < 140737488355328
theorem CodeOk.ns' {I : List S40} {D : List S42} {Nm : List ByteArray} (h : CodeOk I D Nm) : ∀ s ∈ Nm, s.size ≤ 9223372036854775807 := fun s hs => by have := h.ns s hs; omega

theorem encode_calls (I : List S40) (D : List S42) (Nm : List ByteArray) (ho : CodeOk I D Nm) (A0 A1 A2 : Option Addr) (c0 c1 c2 : Nat) (w : World) (h : CodeAt w I D Nm A0 A1 A2 c0 c1 c2) :
    Calls Tryd.prog 4 #[.agg #[.slice A0 I.length c0, .slice A1 D.length c1, .slice A2 Nm.length c2]] w fun e w' => ∃ A c, e = .returned (.tuple #[.slice A (encR I D Nm).1.length c, .int .i64 (encR I D Nm).2]) ∧ (encR I D Nm).1.length ≤ c ∧ Kd.C (Kd.int .u8) w' A (encR I D Nm).1.length (encR I D Nm).1 ∧ Below w.heap.size w w' := by
  cases hv : verB I D Nm with
  | false =>
    have he : encR I D Nm = ([], 130) := by unfold encR; rw [hv]; rfl
    rw [he]
    refine (encode_no I D Nm ho.fit ho.ns' A0 A1 A2 c0 c1 c2 w h hv).mono ?_
    rintro e w' ⟨rfl, hb⟩
    exact ⟨none, 0, rfl, Nat.le_refl _, (Kd.V_reads' (Kd.V_nil (Kd.int .u8) 5 w' 0 (fun _ => True))).2.2, hb⟩
  | true =>
    have he : encR I D Nm = (encL I D Nm, 0) := by unfold encR; rw [hv]; rfl
    rw [he]
    exact encode_yes I D Nm ho.fit ho.ns' ho.hd ho.hb A0 A1 A2 c0 c1 c2 w h hv

set_option maxRecDepth 100000 in
set_option maxHeartbeats 2000000 in
theorem hash_calls (I : List S40) (D : List S42) (Nm : List ByteArray) (ho : CodeOk I D Nm) (A0 A1 A2 : Option Addr) (c0 c1 c2 : Nat) (w : World) (h : CodeAt w I D Nm A0 A1 A2 c0 c1 c2) (hH : Halves w) :
    Calls Tryd.prog 9 #[.agg #[.slice A0 I.length c0, .slice A1 D.length c1, .slice A2 Nm.length c2]] w fun e w' => e = .returned (.int .u32 (hashR I D Nm)) ∧ Below w.heap.size w w' := by
  have hu26 := Tryd.underlying26
  have hB1 : Below w.heap.size w (w.alloc (.cells #[.slice A0 I.length c0, .slice A1 D.length c1, .slice A2 Nm.length c2] 26)) := (Below.refl _ w).alloc (Nat.le_refl _) _
  have HE := Aside0.mk (encode_calls I D Nm ho A0 A1 A2 c0 c1 c2 _ (h.below hB1))
  have HB1 := Aside0.mk hB1
  have HO := Aside0.mk ho
  have HH := Aside0.mk hH
  cases hv : verB I D Nm with
  | false =>
    have he : encR I D Nm = ([], 130) := by unfold encR; rw [hv]; rfl
    have hh : hashR I D Nm = 0 := by unfold hashR; rw [hv]; rfl
    rw [he] at HE
    rw [hh]
    clear hv he hh ho hH h hB1
    go_enter Tryd.func9, Tryd.ntmps9
    go_wp2_with (go_at_call 4; refine HE.out.mono ?_; rintro e w1 ⟨A, c, rfl, hc, hC, hb⟩; have HB2 := Aside0.mk (HB1.out.trans (hb.mono HB1.out.size)); clear hC hb)
    go_ret
    exact ⟨rfl, HB2.out⟩
  | true =>
    have he : encR I D Nm = (encL I D Nm, 0) := by unfold encR; rw [hv]; rfl
    have hh : hashR I D Nm = ((Crc.sum ((encL I D Nm).map Int.toNat) : Nat) : Int) := by unfold hashR; rw [hv]; rfl
    rw [he] at HE
    rw [hh]
    clear hv he hh ho hH h hB1
    go_enter Tryd.func9, Tryd.ntmps9
    go_wp2_with (go_at_call 4; refine HE.out.mono ?_; rintro e w1 ⟨A, c, rfl, hc, hC, hb⟩; have HB2 := Aside0.mk (HB1.out.trans (hb.mono HB1.out.size)); have HC := Aside0.mk hC; clear hC hb)
    have hlen : (encL I D Nm).length = ((encL I D Nm).map Int.toNat).length := by simp
    have hcc := HC.out
    rw [show encL I D Nm = ((encL I D Nm).map Int.toNat).map Int.ofNat from byt_nat (encL_byt I D Nm)] at hcc
    have hs := sum_calls ((encL I D Nm).map Int.toNat) (byt_lt (encL_byt I D Nm)) (by have := HO.out.hb; rw [List.length_map]; omega) A c w1 (halves_below HH.out HB2.out (Nat.le_refl _)) (by simpa using hcc)
    rw [List.length_map] at hs
    refine hs.mono ?_
    rintro e w2 ⟨rfl, rfl⟩
    clear hs hcc hlen
    go_wp2_with fail
    go_ret
    exact ⟨rfl, HB2.out⟩

/-- The state behind the law's two encodings. -/
structure LawS (w : World) (cs : Array Value) (l : List Int) (A A' : Option Addr) (W : World) : Prop where
  bel : Below w.heap.size w W
  box : W.heap[w.heap.size]? = some (.cells cs 26 (0, 0))
  c1 : Kd.C (Kd.int .u8) W A l.length l
  c2 : Kd.C (Kd.int .u8) W A' l.length l
theorem LawS.below {w W W' : World} {cs : Array Value} {l : List Int} {A A' : Option Addr} (h : LawS w cs l A A' W) (hb : Below W.heap.size W W') : LawS w cs l A A' W' :=
  ⟨below_step h.bel hb, blk_below h.box hb, Kd.C_below h.c1 hb, Kd.C_below h.c2 hb⟩
theorem LawS.drew {w W : World} {cs : Array Value} {l : List Int} {A A' : Option Addr} (h : LawS w cs l A A' W) : LawS w cs l A A' W.drew :=
  h.below (below_drew1 (Below.refl _ _))
theorem LawS.cells {w W : World} {u0 u1 u2 : Value} {l : List Int} {A A' : Option Addr} (h : LawS w #[u0, u1, u2] l A A' W) : W.cell? ⟨w.heap.size, 0, none⟩ = some u0 ∧ W.cell? ⟨w.heap.size, 1, none⟩ = some u1 ∧ W.cell? ⟨w.heap.size, 2, none⟩ = some u2 :=
  ⟨blk_cell h.box 0, blk_cell h.box 1, blk_cell h.box 2⟩

set_option maxRecDepth 100000 in
set_option maxHeartbeats 2000000 in
theorem law_calls (I : List S40) (D : List S42) (Nm : List ByteArray) (ho : CodeOk I D Nm) (A0 A1 A2 : Option Addr) (c0 c1 c2 : Nat) (w : World) (h : CodeAt w I D Nm A0 A1 A2 c0 c1 c2) (hH : Halves w) :
    Calls Tryd.prog 3 #[.agg #[.slice A0 I.length c0, .slice A1 D.length c1, .slice A2 Nm.length c2]] w fun e w' => e = .returned (.bool true) ∧ Below w.heap.size w w' := by
  have hu26 := Tryd.underlying26
  have hB1 : Below w.heap.size w (w.alloc (.cells #[.slice A0 I.length c0, .slice A1 D.length c1, .slice A2 Nm.length c2] 26)) := (Below.refl _ w).alloc (Nat.le_refl _) _
  have hmD := Kd.C_max h.d
  have hmN := Kd.C_max h.n
  obtain ⟨ke, hke⟩ := (encode_ev I D Nm (by omega) (by omega) ho.ns ho.fit ho.hd (by have := ho.hb; omega)).rounds
  obtain ⟨kv, hkv⟩ := (verify_ev I D Nm ho.fit ho.ns' (by omega) (by omega)).rounds
  obtain ⟨kh, hkh⟩ := (hash_ev I D Nm (by omega) (by omega) ho.ns ho.fit ho.hd (by have := ho.hb; omega)).rounds
  have HE := Aside0.mk (encode_calls I D Nm ho A0 A1 A2 c0 c1 c2 _ (h.below hB1))
  obtain ⟨p, hp⟩ : ∃ p, p = encR I D Nm := ⟨_, rfl⟩
  rw [← hp] at HE hke
  obtain ⟨l, n⟩ := p
  clear hp
  simp only at HE
  obtain ⟨v, hv⟩ : ∃ v, v = verR I D Nm := ⟨_, rfl⟩
  obtain ⟨hs, hhs⟩ : ∃ hs, hs = hashR I D Nm := ⟨_, rfl⟩
  have HVE := Aside0.mk (show ∀ W, Below w.heap.size w W → Calls Tryd.prog 6 #[.agg #[.slice A0 I.length c0, .slice A1 D.length c1, .slice A2 Nm.length c2]] W fun e w' => e = .returned (.int .i64 v) ∧ Below W.heap.size W w' from fun W hb => hv ▸ verify_calls I D Nm ho.fit ho.ns' A0 A1 A2 c0 c1 c2 W (h.below hb))
  have HVR := Aside0.mk (show ∀ W, Below w.heap.size w W → Calls Tryd.prog 7 #[.agg #[.slice A0 I.length c0, .slice A1 D.length c1, .slice A2 Nm.length c2]] W fun e w' => e = .returned (.int .i64 v) ∧ Below W.heap.size W w' from fun W hb => by
    have hc := h.below hb
    exact rostrumref13_Verify.calls kv A0 c0 I A1 c1 D A2 c2 Nm v W hc.i hc.ic hc.d hc.dc hc.n hc.nc (hv ▸ hkv))
  have HHE := Aside0.mk (show ∀ W, Below w.heap.size w W → Calls Tryd.prog 9 #[.agg #[.slice A0 I.length c0, .slice A1 D.length c1, .slice A2 Nm.length c2]] W fun e w' => e = .returned (.int .u32 hs) ∧ Below W.heap.size W w' from fun W hb => hhs ▸ hash_calls I D Nm ho A0 A1 A2 c0 c1 c2 W (h.below hb) (halves_below hH hb (Nat.le_refl _)))
  have HHR := Aside0.mk (show ∀ W, Below w.heap.size w W → Calls Tryd.prog 10 #[.agg #[.slice A0 I.length c0, .slice A1 D.length c1, .slice A2 Nm.length c2]] W fun e w' => e = .returned (.int .u32 hs) ∧ Below W.heap.size W w' from fun W hb => by
    have hc := h.below hb
    exact rostrumref13_Hash.calls kh A0 c0 I A1 c1 D A2 c2 Nm hs W hc.i hc.ic hc.d hc.dc hc.n hc.nc (hhs ▸ hkh))
  have HRE := Aside0.mk (show ∀ W, Below w.heap.size w W → Calls Tryd.prog 5 #[.agg #[.slice A0 I.length c0, .slice A1 D.length c1, .slice A2 Nm.length c2]] W fun e w' => ∃ A c, e = .returned (.tuple #[.slice A l.length c, .int .i64 n]) ∧ l.length ≤ c ∧ Kd.C (Kd.int .u8) w' A l.length l ∧ Below W.heap.size W w' from fun W hb => by
    have hc := h.below hb
    refine (rostrumref13_Encode.calls ke A0 c0 I A1 c1 D A2 c2 Nm l n W hc.i hc.ic hc.d hc.dc hc.n hc.nc hke).mono ?_
    rintro e w' ⟨v0, rfl, hR, hB⟩
    obtain ⟨A, c, rfl⟩ := Kd.R_slice hR
    have hr := Kd.V_reads' (Kd.R_V (base' := 0) hR)
    exact ⟨A, c, rfl, hr.2.1, hr.2.2, hB⟩)
  have hbx := blk_new w (.cells #[.slice A0 I.length c0, .slice A1 D.length c1, .slice A2 Nm.length c2] 26)
  have HBX := Aside0.mk hbx
  have HB1 := Aside0.mk hB1
  clear hke hkv hkh hv hhs hH h ho hB1 hbx hmD hmN
  go_enter Tryd.func3, Tryd.ntmps3
  go_wp2_with (first
    | (go_at_call 4; refine HE.out.mono ?_; rintro e w1 ⟨A, c, rfl, hc, hC, hb⟩; have HB2 := Aside0.mk (HB1.out.trans (hb.mono HB1.out.size)); have HC := Aside0.mk (And.intro hc hC); have hbx2 := blk_below HBX.out hb; have x0 : w1.cell? ⟨w.heap.size, 0, none⟩ = some (.slice A0 I.length c0) := blk_cell hbx2 0; have x1 : w1.cell? ⟨w.heap.size, 1, none⟩ = some (.slice A1 D.length c1) := blk_cell hbx2 1; have x2 : w1.cell? ⟨w.heap.size, 2, none⟩ = some (.slice A2 Nm.length c2) := blk_cell hbx2 2; have HBX2 := Aside0.mk hbx2; clear hC hb hbx2)
    | (go_at_call 5; refine (HRE.out _ HB2.out).mono ?_; rintro e w2 ⟨A', c', rfl, hc', hC', hb2⟩; have HC2 := Aside0.mk hc'; have HL := Aside0.mk (show LawS w #[.slice A0 I.length c0, .slice A1 D.length c1, .slice A2 Nm.length c2] l A A' w2 from ⟨below_step HB2.out hb2, blk_below HBX2.out hb2, Kd.C_below HC.out.2 hb2, hC'⟩); clear hC' hb2 hc'))
  clear x0 x1 x2 HE HRE HB2 HBX2 HB1 HBX
  have n_ := Aside0.mk HL.out.drew
  clear HL
  have HL := n_
  clear n_
  go_region_held3 (fun w' => w'.cell? ⟨w.heap.size, 0, none⟩ = some (.slice A0 I.length c0) ∧ w'.cell? ⟨w.heap.size, 1, none⟩ = some (.slice A1 D.length c1) ∧ w'.cell? ⟨w.heap.size, 2, none⟩ = some (.slice A2 Nm.length c2)) (first | exact HL.out.cells)
    (first
      | (go_at_call 6; refine (HVE.out _ HL.out.bel).mono ?_; rintro e w5 ⟨rfl, hb⟩; have n_ := Aside0.mk (HL.out.below hb); clear HL hb; have HL := n_; clear n_)
      | (go_at_call 7; refine (HVR.out _ HL.out.bel).mono ?_; rintro e w5 ⟨rfl, hb⟩; have n_ := Aside0.mk (HL.out.below hb); clear HL hb; have HL := n_; clear n_)
      | (go_at_call 8; refine (bytes_Equal.calls A c l A' c' l true _ HL.out.c1 HC.out.1 HL.out.c2 HC2.out (by simp [bytes_Equal.f])).mono ?_; rintro e w5 ⟨rfl, hb⟩; have n_ := Aside0.mk (HL.out.below hb.below); clear HL hb; have HL := n_; clear n_)
      | (go_at_call 9; refine (HHE.out _ HL.out.bel).mono ?_; rintro e w5 ⟨rfl, hb⟩; have n_ := Aside0.mk (HL.out.below hb); clear HL hb; have HL := n_; clear n_)
      | (go_at_call 10; refine (HHR.out _ HL.out.bel).mono ?_; rintro e w5 ⟨rfl, hb⟩; have n_ := Aside0.mk (HL.out.below hb); clear HL hb; have HL := n_; clear n_))
  all_goals go_wp2
  go_ret
  exact ⟨rfl, HL.out.bel⟩
end Go.Proofs.YtpkfppfdkdjlhaaDoor.D
