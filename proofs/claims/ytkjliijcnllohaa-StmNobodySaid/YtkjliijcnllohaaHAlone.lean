/- The law StmAlone, walked. -/
import Derived.Test.YtkjliijcnllohaaHRef3
namespace Go.Proofs.Ytkjliijcnllohaa.S
open Go.RowKit Go.Proofs.YtkjliijcnllohaaW.PrintWords Go.Proofs.YtkjliijcnllohaaW.PrintLast Go.Proofs.YtkjliijcnllohaaW.PrintMore
set_option linter.unusedVariables false
set_option linter.unusedSimpArgs false

theorem sv_free {S : List Ent} (h : ∀ x ∈ S, x.sv.lock = none ∧ x.ver = 0 ∧ x.had = true) (n : ByteArray) : (sv S n).lock = none := by
  unfold sv
  cases hf : find S n with
  | none => rfl
  | some x => exact (h x (List.mem_of_find?_eq_some hf)).1
theorem put_nil (name : ByteArray) (v : Value) : put [] name v = [(name, v)] := rfl
theorem get_one (name : ByteArray) (v : Value) : get? [(name, v)] name = some v := by simp [get?]
theorem has_one (name : ByteArray) (v : Value) : has [(name, v)] name = true := by simp [has, get_one]
theorem Reads.d0 {w w' : World} {v : Value} {xs : List Int} (h : Reads w v xs) : Reads w v xs := h

set_option maxRecDepth 100000 in
set_option maxHeartbeats 8000000 in
theorem alone_calls {L : List SA} {A : Option Addr} {c : Nat} {name : ByteArray} {v : Value} {xs : List Int} {w : World} (h : SlotsIn w A L) (hlen : L.length < 10000000000000) (hb : Reads w v xs) :
    Calls Try.prog 4 #[.slice A L.length c, .string name, v] w fun e w' => e = .returned (.bool true) ∧ Below w.heap.size w w' := by
  have H := Aside0.mk h
  have HRD := Aside0.mk hb
  clear h hb
  go_enter Try.func4, Try.ntmps4
  go_wp2_with fail
  refine (new_calls H.out).mono ?_
  rintro e w1 ⟨hb1, hpost⟩
  have HB1 := Aside0.mk hb1
  clear hb1
  rcases hpost with ⟨h1, rfl⟩ | ⟨h1, h2, rfl⟩ | ⟨h1, h2, s, bm, S, rfl, hsp, hn, hbs, hfr, hs1, hs2, hs3⟩
  · go_wp2_with fail
    refine (refNew_calls (H.out.below HB1.out (Nat.le_refl _)) hlen).mono ?_
    rintro e w2 ⟨hb2, ⟨-, rfl⟩ | ⟨h3, -⟩ | ⟨h3, -⟩⟩
    · have HB2 := Aside0.mk (HB1.out.trans (hb2.mono HB1.out.size))
      clear hb2
      go_wp2_with fail
      go_returns
      exact ⟨rfl, HB2.out⟩
    · rw [h1] at h3; cases h3
    · rw [h1] at h3; cases h3
  · go_wp2_with fail
    refine (refNew_calls (H.out.below HB1.out (Nat.le_refl _)) hlen).mono ?_
    rintro e w2 ⟨hb2, ⟨h3, -⟩ | ⟨-, -, rfl⟩ | ⟨-, h3, -⟩⟩
    · rw [h1] at h3; cases h3
    · have HB2 := Aside0.mk (HB1.out.trans (hb2.mono HB1.out.size))
      clear hb2
      go_wp2_with fail
      go_returns
      exact ⟨rfl, HB2.out⟩
    · exact absurd h3 h2
  have HL1 : Aside0 (LawSt w w1 s bm 0 S) := ⟨⟨hsp, HB1.out, hs1, hs2, fun i hi => by
    obtain ⟨x, hx, rfl⟩ := List.mem_map.1 hi
    exact hs3 x hx⟩⟩
  have HSV1 := Aside0.mk (fun n => sv_free hfr n)
  have H12 := Aside0.mk (And.intro h1 h2)
  clear hsp hn hbs hfr hs1 hs2 hs3 h1 h2
  unfold ptr
  go_wp2_with fail
  refine (refNew_calls (H.out.below HB1.out (Nat.le_refl _)) hlen).mono ?_
  rintro e w2 ⟨hb2, ⟨h3, -⟩ | ⟨-, h3, -⟩ | ⟨-, -, rs, rfl⟩⟩
  · rw [H12.out.1] at h3; cases h3
  · exact absurd H12.out.2 h3
  have HL2 := Aside0.mk (HL1.out.step0 (Fr.ofBelow hb2 []))
  clear hb2
  unfold ptr
  go_wp2_with fail
  refine (begin_is HL2.out.sp).mono ?_
  rintro e w3 ⟨t, br, bw, rfl, hx3, hnew3, hs3, hf3⟩
  have HT3 := Aside0.mk (TxSt.new HL2.out hx3 hnew3)
  have HL3 := Aside0.mk (HL2.out.step0 hf3)
  clear hx3 hnew3 hs3 hf3
  unfold ptr
  go_wp2_with fail
  cases hfit : fitB name with
  | false =>
    have HF := Aside0.mk hfit
    clear hfit
    refine (put_name HT3.out.1.tx name HF.out v).mono ?_
    rintro e w4 ⟨rfl, hf4⟩
    have HL4 := Aside0.mk (HL3.out.step0 hf4)
    clear hf4
    go_wp2_with fail
    refine (isName_calls name _).mono ?_
    rintro e w5 ⟨rfl, ⟨nd, rfl⟩⟩
    rw [HF.out]
    go_wp2_with fail
    go_returns
    exact ⟨rfl, pw_below_drewN HL4.out.bel _⟩
  | true =>
    have HF := Aside0.mk hfit
    clear hfit
    refine (put_is HL3.out.sp HT3.out.1 name HF.out (HRD.out.below HL3.out.bel (Nat.le_refl _))).mono ?_
    rintro e w4 ⟨rfl, v4, hr4, hs4, hx4, hf4⟩
    rw [put_nil] at hx4
    have HT4 : Aside0 (TxSt w w4 s bm t br bw 0 0 [] [(name, v4)]) := ⟨⟨hx4, HT3.out.2⟩⟩
    have HL4 := Aside0.mk (HL3.out.step HT3.out hf4 hs4 (later_refl _ _))
    have HR4 := Aside0.mk hr4
    clear hr4 hs4 hx4 hf4
    go_wp2_with fail
    refine (get_own HT4.out.1.tx HT4.out.1.wr name HF.out (get_one name v4) HR4.out).mono ?_
    rintro e w5 ⟨v5, rfl, hr5, hf5⟩
    have HT5 := Aside0.mk (HT4.out.step0 hf5)
    have HL5 := Aside0.mk (HL4.out.step0 hf5)
    have HR5 := Aside0.mk (HR4.out.fr hf5)
    have HV5 := Aside0.mk hr5
    clear hr5 hf5
    go_wp2_with fail
    refine (equal_calls HV5.out.reads (HRD.out.below HL5.out.bel (Nat.le_refl _))).mono ?_
    rintro e w6 ⟨rfl, ⟨nd, rfl⟩⟩
    rw [beq_self_eq_true]
    have HT6 := Aside0.mk (HT5.out.step0 (Fr.drewN w5 nd))
    have HL6 := Aside0.mk (HL5.out.step0 (Fr.drewN w5 nd))
    have HR6 := Aside0.mk (HR5.out.fr (Fr.drewN (T := []) w5 nd))
    go_wp2_with fail
    refine (lock_is HL6.out.sp HT6.out.1).mono ?_
    rintro e w7 ⟨S7, hf7, hs7, hl7, ⟨-, rfl, hx7, hsv7⟩ | ⟨⟨n, hn, hno⟩, -⟩⟩
    rotate_left
    · exact absurd (HSV1.out n) hno
    have HT7 : Aside0 (TxSt w w7 s bm t br bw 0 1 [] [(name, v4)]) := ⟨⟨hx7, HT6.out.2⟩⟩
    have HL7 := Aside0.mk (HL6.out.step HT6.out hf7 hs7 hl7)
    have HR7 := Aside0.mk (HR6.out.fr hf7)
    have HSV7 : Aside0 ((sv S7 name).lock = some t) := ⟨by rw [hsv7, if_pos (has_one name v4)]⟩
    clear hf7 hs7 hl7 hx7 hsv7
    go_wp2_with fail
    refine (check_is (.inl rfl) HL7.out.sp HT7.out.1).mono ?_
    rintro e w8 ⟨S8, hf8, hs8, hl8, ⟨-, rfl, hx8, hsv8⟩ | ⟨⟨n, hn, -⟩, -⟩⟩
    rotate_left
    · cases hn
    have HT8 : Aside0 (TxSt w w8 s bm t br bw 0 2 [] [(name, v4)]) := ⟨⟨hx8, HT7.out.2⟩⟩
    have HL8 := Aside0.mk (HL7.out.step HT7.out hf8 hs8 hl8)
    have HR8 := Aside0.mk (HR7.out.fr hf8)
    have HSV8 : Aside0 ((sv S8 name).lock = some t) := ⟨by rw [hsv8]; exact HSV7.out⟩
    clear hf8 hs8 hl8 hx8 hsv8
    go_wp2_with fail
    refine (publish_is (wb := fun _ => xs) HL8.out.sp HT8.out.1 (fun p hp => by
      simp only [List.mem_singleton] at hp
      subst hp; exact HR8.out) (by omega) (by omega)).mono ?_
    rintro e w9 ⟨S9, hf9, hl9, ⟨-, rfl, hs9, hx9, hsv9⟩ | ⟨⟨n, hn, -⟩, -⟩⟩
    rotate_left
    · cases hn
    rw [if_neg (by simp)] at hs9
    have HT9 : Aside0 (TxSt w w9 s bm t br bw 0 3 [] [(name, v4)]) := ⟨⟨hx9, HT8.out.2⟩⟩
    have HL9 := Aside0.mk (HL8.out.step HT8.out hf9 hs9 hl9)
    have HSV9 : Aside0 (sv S9 name = ⟨1, xs, true, none⟩) := ⟨by
      rw [hsv9, if_pos (has_one name v4), HSV8.out]; unfold Sv.unlock; simp⟩
    clear hf9 hs9 hl9 hx9 hsv9
    go_wp2_with fail
    refine (clock_calls HL9.out.sp).mono ?_
    rintro e w10 ⟨rfl, rfl⟩
    go_wp2_with fail
    refine (begin_is HL9.out.sp).mono ?_
    rintro e w11 ⟨tu, bru, bwu, rfl, hx11, hnew11, hs11, hf11⟩
    have HU11 := Aside0.mk (TxSt.new HL9.out hx11 hnew11)
    have HL11 := Aside0.mk (HL9.out.step0 hf11)
    have HT11 := Aside0.mk (HT9.out.step0 hf11)
    have HATU := Aside0.mk (apart_new HT9.out hnew11)
    clear hx11 hnew11 hs11 hf11
    unfold ptr
    go_wp2_with fail
    refine (get_is HL11.out.sp HU11.out.1 name HF.out rfl).mono ?_
    rintro e w12 ⟨S12, hf12, hs12, hl12, ⟨-, v12, rfl, hr12, hx12, hsv12⟩ | ⟨hno, -⟩⟩
    rotate_left
    · exfalso; exact hno (by rw [HSV9.out]; exact ⟨rfl, by show (1 : Int) ≤ 0 + 1; decide⟩)
    have HU12 : Aside0 (TxSt w w12 s bm tu bru bwu (0 + 1) 0 (put [] name (.bool true)) []) := ⟨⟨hx12, HU11.out.2⟩⟩
    have HL12 := Aside0.mk (HL11.out.step HU11.out hf12 hs12 hl12)
    have HT12 := Aside0.mk (HT11.out.keep HL11.out HU11.out HATU.out.symm hf12)
    rw [HSV9.out] at hr12
    have HV12 := Aside0.mk hr12
    clear hf12 hs12 hl12 hx12 hsv12 hr12
    go_wp2_with fail
    refine (equal_calls HV12.out.reads (HRD.out.below HL12.out.bel (Nat.le_refl _))).mono ?_
    rintro e w13 ⟨rfl, ⟨nd2, rfl⟩⟩
    rw [beq_self_eq_true]
    have HT13 := Aside0.mk (HT12.out.step0 (Fr.drewN w12 nd2))
    have HU13 := Aside0.mk (HU12.out.step0 (Fr.drewN w12 nd2))
    have HL13 := Aside0.mk (HL12.out.step0 (Fr.drewN w12 nd2))
    go_wp2_with fail
    refine (abort_is HL13.out.sp HU13.out.1 (by omega)).mono ?_
    rintro e w14 ⟨rfl, S14, hf14, hs14, hl14, hx14, hsv14⟩
    have HL14 := Aside0.mk (HL13.out.step HU13.out hf14 hs14 hl14)
    have HT14 := Aside0.mk (HT13.out.keep HL13.out HU13.out HATU.out.symm hf14)
    clear hf14 hs14 hl14 hx14 hsv14
    go_wp2_with fail
    refine (abort_no HT14.out.1.tx (by omega)).mono ?_
    rintro e w15 ⟨rfl, rfl⟩
    go_wp2_with fail
    go_returns
    exact ⟨rfl, HL14.out.bel⟩
end Go.Proofs.Ytkjliijcnllohaa.S
