/- The law StmLocks, walked. -/
import Derived.Test.YtkjliijcnllohaaHOps
namespace Go.Proofs.Ytkjliijcnllohaa.S
open Go.RowKit Go.Proofs.YtkjliijcnllohaaW.PrintWords Go.Proofs.YtkjliijcnllohaaW.PrintLast Go.Proofs.YtkjliijcnllohaaW.PrintMore
set_option linter.unusedVariables false
set_option linter.unusedSimpArgs false

/-- A law's space, above what the law was handed. -/
structure LawSt (w0 w : World) (s bm : Nat) (clock : Int) (S : List Ent) : Prop where
  sp : SpAt w s bm clock S
  bel : Below w0.heap.size w0 w
  up : w0.heap.size ≤ s ∧ w0.heap.size ≤ bm ∧ ∀ i ∈ gs S, w0.heap.size ≤ i
/-- A law's transaction. -/
def TxSt (w0 w : World) (s bm t br bw : Nat) (time phase : Int) (mr m : List (ByteArray × Value)) : Prop := TxIs w s bm t br bw time phase mr m ∧ w0.heap.size ≤ t ∧ w0.heap.size ≤ br ∧ w0.heap.size ≤ bw
section
variable {w0 w w' : World} {s bm t br bw : Nat} {clock clock' time phase : Int} {S S' : List Ent} {mr m : List (ByteArray × Value)}
theorem LawSt.step (h : LawSt w0 w s bm clock S) (hx : TxSt w0 w s bm t br bw time phase mr m) (hf : Fr (Tch s bm t br bw S) w w') (hS : SpAt w' s bm clock' S') {X : ByteArray → Prop} (hL : Later X w S S') : LawSt w0 w' s bm clock' S' := by
  refine ⟨hS, h.bel.trans (hf.below h.bel.size (fun k hk => ?_)), h.up.1, h.up.2.1, fun i hi => ?_⟩
  · simp only [Tch, List.mem_cons] at hk
    rcases hk with rfl | rfl | rfl | rfl | rfl | hk
    · exact h.up.1
    · exact h.up.2.1
    · exact hx.2.2.1
    · exact hx.2.2.2
    · exact hx.2.1
    · exact h.up.2.2 k hk
  · rcases Nat.lt_or_ge i w.heap.size with hlt | hge
    · exact h.up.2.2 i (hL.g i hlt hi)
    · have := h.bel.size; omega
theorem LawSt.step0 (h : LawSt w0 w s bm clock S) (hf : Fr [] w w') : LawSt w0 w' s bm clock S :=
  ⟨h.sp.fr0 hf, h.bel.trans (hf.below h.bel.size (fun k hk => by cases hk)), h.up⟩
theorem TxSt.step0 (h : TxSt w0 w s bm t br bw time phase mr m) (hf : Fr [] w w') : TxSt w0 w' s bm t br bw time phase mr m := ⟨h.1.fr hf, h.2⟩
theorem TxSt.keep {t' br' bw' : Nat} {time' phase' : Int} {mr' m' : List (ByteArray × Value)} (h' : TxSt w0 w s bm t' br' bw' time' phase' mr' m') (h : LawSt w0 w s bm clock S) (hx : TxSt w0 w s bm t br bw time phase mr m) (ha : Apart t br bw t' br' bw') (hf : Fr (Tch s bm t br bw S) w w') : TxSt w0 w' s bm t' br' bw' time' phase' mr' m' := ⟨TxIs.keep h.sp hx.1 h'.1 ha hf, h'.2⟩
theorem apart_new {t' br' bw' : Nat} (hx : TxSt w0 w s bm t br bw time phase mr m) (hn : w.heap.size ≤ t' ∧ w.heap.size ≤ br' ∧ w.heap.size ≤ bw') : Apart t br bw t' br' bw' := by
  have := hx.1.lt
  exact ⟨by omega, by omega, by omega, by omega, by omega⟩
theorem Apart.symm {t br bw t' br' bw' : Nat} (h : Apart t br bw t' br' bw') : Apart t' br' bw' t br bw := ⟨fun e => h.1 e.symm, fun e => h.2.1 e.symm, fun e => h.2.2.2.1 e.symm, fun e => h.2.2.1 e.symm, fun e => h.2.2.2.2 e.symm⟩
theorem TxSt.new {t br bw : Nat} (h : LawSt w0 w s bm clock S) (hx : TxIs w' s bm t br bw time phase mr m) (hn : w.heap.size ≤ t ∧ w.heap.size ≤ br ∧ w.heap.size ≤ bw) : TxSt w0 w' s bm t br bw time phase mr m := by
  have := h.bel.size
  exact ⟨hx, by omega, by omega, by omega⟩
end

def aN : ByteArray := ⟨#[97]⟩
def bN : ByteArray := ⟨#[98]⟩
theorem fit_a : fitB aN = true := by decide +kernel
theorem fit_b : fitB bN = true := by decide +kernel
theorem a_ne_b : aN ≠ bN := by decide +kernel
def two : List SA := [⟨aN, 0, .slice none 0 0, []⟩, ⟨bN, 0, .slice none 0 0, []⟩]
theorem two_in (w : World) : SlotsIn (w.alloc (.cells #[.string aN, .int .i64 0, .slice none 0 0, .string bN, .int .i64 0, .slice none 0 0] 28)) (some ⟨w.heap.size, 0, none⟩) two := by
  have hb := blk_new w (.cells #[.string aN, .int .i64 0, .slice none 0 0, .string bN, .int .i64 0, .slice none 0 0] 28)
  refine ⟨by decide, fun i hi => ?_⟩
  have hr : ∀ W, Reads W (.slice none 0 0) [] := fun W => ⟨by simp, .inl ⟨rfl, rfl⟩⟩
  match i, hi with
  | 0, _ => exact ⟨_, rfl, (blk_cell hb 0).trans rfl, (blk_cell hb 1).trans rfl, (blk_cell hb 2).trans rfl, hr _⟩
  | 1, _ => exact ⟨_, rfl, (blk_cell hb 3).trans rfl, (blk_cell hb 4).trans rfl, (blk_cell hb 5).trans rfl, hr _⟩
theorem two_fit : (two.all fun x => fitB x.name) = true := by simp [two, fit_a, fit_b]
theorem two_apart : two.Pairwise fun x y => x.name ≠ y.name := by simp [two, a_ne_b]
theorem two_sv {w : World} {s bm : Nat} {S : List Ent} (h : SpAt w s bm 0 S) (hn : S.map (·.name) = two.map (·.name)) (hb : S.map (·.bs) = two.map (·.bs)) (hf : ∀ x ∈ S, x.sv.lock = none ∧ x.ver = 0 ∧ x.had = true) : sv S aN = ⟨0, [], true, none⟩ ∧ sv S bN = ⟨0, [], true, none⟩ := by
  have hl : S.length = 2 := by simpa [two] using congrArg List.length hn
  rcases S with _ | ⟨x, _ | ⟨y, _ | ⟨z, S⟩⟩⟩
  · simp at hl
  · simp at hl
  rotate_left
  · simp at hl
  simp only [two, List.map_cons, List.map_nil, List.cons.injEq, and_true] at hn hb
  have hx := hf x (by simp)
  have hy := hf y (by simp)
  have e1 := sv_mem h.names (x := x) (by simp)
  have e2 := sv_mem h.names (x := y) (by simp)
  rw [hn.1] at e1
  rw [hn.2] at e2
  rw [e1, e2]
  have l1 : x.lock = none := hx.1
  have l2 : y.lock = none := hy.1
  unfold Ent.sv
  rw [hx.2.1, hx.2.2, hy.2.1, hy.2.2, l1, l2, hb.1, hb.2]
  exact ⟨rfl, rfl⟩

set_option maxRecDepth 100000 in
set_option maxHeartbeats 8000000 in
theorem locks_calls {v : Value} {xs : List Int} {w : World} (over : Bool) (h : Reads w v xs) : Calls Try.prog 3 #[v, .bool over] w fun e w' => e = .returned (.bool true) ∧ Below w.heap.size w w' := by
  have hu28 := Try.underlying28
  have HRD := Aside0.mk h
  clear h
  go_enter Try.func3, Try.ntmps3
  go_wp2_with fail
  refine (new_calls (c := 2) (two_in w)).mono ?_
  rintro e w1 ⟨hb1, hpost⟩
  have HB1 := Aside0.mk ((below_alloc (Below.refl w.heap.size w) (.cells #[.string aN, .int .i64 0, .slice none 0 0, .string bN, .int .i64 0, .slice none 0 0] 28)).trans (hb1.mono (by simp)))
  clear hb1
  rcases hpost with ⟨h1, -⟩ | ⟨-, h1, -⟩ | ⟨-, -, s, bm, S, rfl, hsp, hn, hbs, hfr, hs1, hs2, hs3⟩
  · rw [two_fit] at h1; cases h1
  · exact absurd two_apart h1
  have hsv := two_sv hsp hn hbs hfr
  have hsz : (w.alloc (.cells #[.string aN, .int .i64 0, .slice none 0 0, .string bN, .int .i64 0, .slice none 0 0] 28)).heap.size = w.heap.size + 1 := by simp
  have HL1 : Aside0 (LawSt w w1 s bm 0 S) := ⟨⟨hsp, HB1.out, by omega, by omega, fun i hi => by
    obtain ⟨x, hx, rfl⟩ := List.mem_map.1 hi
    have := hs3 x hx
    omega⟩⟩
  have HSV1 := Aside0.mk hsv
  clear hsp hn hbs hfr hs1 hs2 hs3 hsv hsz
  go_wp2_with fail
  refine (begin_is HL1.out.sp).mono ?_
  rintro e w2 ⟨t, br, bw, rfl, hx2, hnew2, hs2, hf2⟩
  have HT2 := Aside0.mk (TxSt.new HL1.out hx2 hnew2)
  have HL2 := Aside0.mk (HL1.out.step0 hf2)
  clear hx2 hnew2 hs2 hf2
  unfold ptr
  go_wp2_with fail
  refine (put_is HL2.out.sp HT2.out.1 aN fit_a (HRD.out.below HL2.out.bel (Nat.le_refl _))).mono ?_
  rintro e w3 ⟨rfl, v3, hr3, hs3, hx3, hf3⟩
  have HT3 : Aside0 (TxSt w w3 s bm t br bw 0 0 [] [(aN, v3)]) := ⟨⟨hx3, HT2.out.2⟩⟩
  have HL3 := Aside0.mk (HL2.out.step HT2.out hf3 hs3 (later_refl (fun _ => False) _ _))
  have HR3 := Aside0.mk hr3
  clear hr3 hs3 hx3 hf3
  go_wp2_with fail
  refine (lock_is HL3.out.sp HT3.out.1).mono ?_
  rintro e w4 ⟨S4, hf4, hs4, hl4, ⟨-, rfl, hx4, hsv4⟩ | ⟨⟨n, hn, hno⟩, -⟩⟩
  rotate_left
  · exfalso
    obtain ⟨p, hp, rfl⟩ := has_iff.1 hn
    simp only [List.mem_singleton] at hp
    subst hp
    exact hno (by rw [HSV1.out.1])
  have HR4 := Aside0.mk (HR3.out.fr hf4)
  have HT4 : Aside0 (TxSt w w4 s bm t br bw 0 1 [] [(aN, v3)]) := ⟨⟨hx4, HT3.out.2⟩⟩
  have HL4 := Aside0.mk (HL3.out.step HT3.out hf4 hs4 hl4)
  have HSV4 : Aside0 (sv S4 aN = ⟨0, [], true, some t⟩ ∧ sv S4 bN = ⟨0, [], true, none⟩) := ⟨by
    have ha : has [(aN, v3)] aN = true := has_iff.2 ⟨(aN, v3), List.mem_singleton.2 rfl, rfl⟩
    have hb : has [(aN, v3)] bN = false := by
      rw [Bool.eq_false_iff]; intro hh
      obtain ⟨p, hp, he⟩ := has_iff.1 hh
      simp only [List.mem_singleton] at hp
      subst hp
      exact a_ne_b he
    rw [hsv4, hsv4, if_pos ha, if_neg (by rw [hb]; simp), HSV1.out.1, HSV1.out.2]
    exact ⟨rfl, rfl⟩⟩
  clear hf4 hs4 hl4 hx4 hsv4
  go_wp2_with fail
  refine (begin_is HL4.out.sp).mono ?_
  rintro e w5 ⟨tu, bru, bwu, rfl, hx5, hnew5, hs5, hf5⟩
  have HU5 := Aside0.mk (TxSt.new HL4.out hx5 hnew5)
  have HL5 := Aside0.mk (HL4.out.step0 hf5)
  have HT5 := Aside0.mk (HT4.out.step0 hf5)
  have HATU := Aside0.mk (apart_new HT4.out hnew5)
  have HR5 := Aside0.mk (HR4.out.fr hf5)
  clear hx5 hnew5 hs5 hf5
  unfold ptr
  go_wp2_with fail
  refine (begin_is HL5.out.sp).mono ?_
  rintro e w6 ⟨tv, brv, bwv, rfl, hx6, hnew6, hs6, hf6⟩
  have HV6 := Aside0.mk (TxSt.new HL5.out hx6 hnew6)
  have HL6 := Aside0.mk (HL5.out.step0 hf6)
  have HT6 := Aside0.mk (HT5.out.step0 hf6)
  have HU6 := Aside0.mk (HU5.out.step0 hf6)
  have HATV := Aside0.mk (apart_new HT5.out hnew6)
  have HAUV := Aside0.mk (apart_new HU5.out hnew6)
  have HR6 := Aside0.mk (HR5.out.fr hf6)
  clear hx6 hnew6 hs6 hf6
  unfold ptr
  go_wp2_with fail
  refine (begin_is HL6.out.sp).mono ?_
  rintro e w7 ⟨tw, brw, bww, rfl, hx7, hnew7, hs7, hf7⟩
  have HW7 := Aside0.mk (TxSt.new HL6.out hx7 hnew7)
  have HL7 := Aside0.mk (HL6.out.step0 hf7)
  have HT7 := Aside0.mk (HT6.out.step0 hf7)
  have HU7 := Aside0.mk (HU6.out.step0 hf7)
  have HV7 := Aside0.mk (HV6.out.step0 hf7)
  have HATW := Aside0.mk (apart_new HT6.out hnew7)
  have HAUW := Aside0.mk (apart_new HU6.out hnew7)
  have HAVW := Aside0.mk (apart_new HV6.out hnew7)
  have HR7 := Aside0.mk (HR6.out.fr hf7)
  clear hx7 hnew7 hs7 hf7
  unfold ptr
  go_wp2_with fail
  refine (get_is HL7.out.sp HU7.out.1 aN fit_a rfl).mono ?_
  rintro e w8 ⟨S8, hf8, hs8, hl8, ⟨⟨hlk, -⟩, -⟩ | ⟨-, rfl, hx8, hsv8⟩⟩
  · rw [HSV4.out.1] at hlk; cases hlk
  have HU8 : Aside0 (TxSt w w8 s bm tu bru bwu 0 4 [] []) := ⟨⟨hx8, HU7.out.2⟩⟩
  have HL8 := Aside0.mk (HL7.out.step HU7.out hf8 hs8 hl8)
  have HT8 := Aside0.mk (HT7.out.keep HL7.out HU7.out HATU.out.symm hf8)
  have HV8 := Aside0.mk (HV7.out.keep HL7.out HU7.out HAUV.out hf8)
  have HW8 := Aside0.mk (HW7.out.keep HL7.out HU7.out HAUW.out hf8)
  have HR8 := Aside0.mk (HR7.out.fr hf8)
  have HSV8 : Aside0 (sv S8 aN = ⟨0, [], true, some t⟩ ∧ sv S8 bN = ⟨0, [], true, none⟩) := ⟨by
    rw [hsv8, hsv8, HSV4.out.1, HSV4.out.2]
    unfold Sv.unlock
    have : t ≠ tu := HATU.out.1
    simp [this]⟩
  clear hf8 hs8 hl8 hx8 hsv8
  go_wp2_with fail
  refine (get_is HL8.out.sp HV8.out.1 bN fit_b rfl).mono ?_
  rintro e w9 ⟨S9, hf9, hs9, hl9, ⟨-, v9, rfl, hr9, hx9, hsv9⟩ | ⟨hno, -⟩⟩
  rotate_left
  · exfalso; exact hno (by rw [HSV8.out.2]; exact ⟨rfl, Int.le_refl _⟩)
  have HV9 : Aside0 (TxSt w w9 s bm tv brv bwv 0 0 (put [] bN (.bool true)) []) := ⟨⟨hx9, HV8.out.2⟩⟩
  have HL9 := Aside0.mk (HL8.out.step HV8.out hf9 hs9 hl9)
  have HT9 := Aside0.mk (HT8.out.keep HL8.out HV8.out HATV.out.symm hf9)
  have HU9 := Aside0.mk (HU8.out.keep HL8.out HV8.out HAUV.out.symm hf9)
  have HW9 := Aside0.mk (HW8.out.keep HL8.out HV8.out HAVW.out hf9)
  have HR9 := Aside0.mk (HR8.out.fr hf9)
  have HSV9 : Aside0 (sv S9 aN = ⟨0, [], true, some t⟩) := ⟨by rw [hsv9]; exact HSV8.out.1⟩
  clear hf9 hs9 hl9 hr9 hx9 hsv9
  go_wp2_with fail
  refine (put_is HL9.out.sp HW9.out.1 aN fit_a (HRD.out.below HL9.out.bel (Nat.le_refl _))).mono ?_
  rintro e w10 ⟨rfl, v10, -, hs10, hx10, hf10⟩
  have HW10 : Aside0 (TxSt w w10 s bm tw brw bww 0 0 [] [(aN, v10)]) := ⟨⟨hx10, HW9.out.2⟩⟩
  have HL10 := Aside0.mk (HL9.out.step HW9.out hf10 hs10 (later_refl (fun _ => False) _ _))
  have HT10 := Aside0.mk (HT9.out.keep HL9.out HW9.out HATW.out.symm hf10)
  have HU10 := Aside0.mk (HU9.out.keep HL9.out HW9.out HAUW.out.symm hf10)
  have HV10 := Aside0.mk (HV9.out.keep HL9.out HW9.out HAVW.out.symm hf10)
  have HR10 := Aside0.mk (HR9.out.fr hf10)
  clear hs10 hx10 hf10
  go_wp2_with fail
  refine (lock_is HL10.out.sp HW10.out.1).mono ?_
  rintro e w11 ⟨S11, hf11, hs11, hl11, ⟨hall, -⟩ | ⟨-, rfl, hx11, hsv11⟩⟩
  · exfalso
    have := hall aN (has_iff.2 ⟨(aN, v10), List.mem_singleton.2 rfl, rfl⟩)
    rw [HSV9.out] at this
    cases this
  have HW11 : Aside0 (TxSt w w11 s bm tw brw bww 0 4 [] [(aN, v10)]) := ⟨⟨hx11, HW10.out.2⟩⟩
  have HL11 := Aside0.mk (HL10.out.step HW10.out hf11 hs11 hl11)
  have HT11 := Aside0.mk (HT10.out.keep HL10.out HW10.out HATW.out.symm hf11)
  have HU11 := Aside0.mk (HU10.out.keep HL10.out HW10.out HAUW.out.symm hf11)
  have HV11 := Aside0.mk (HV10.out.keep HL10.out HW10.out HAVW.out.symm hf11)
  have HR11 := Aside0.mk (HR10.out.fr hf11)
  have HSV11 : Aside0 (sv S11 aN = ⟨0, [], true, some t⟩) := ⟨by
    rw [hsv11, HSV9.out]
    unfold Sv.unlock
    have : t ≠ tw := HATW.out.1
    simp [this]⟩
  clear hf11 hs11 hl11 hx11 hsv11
  go_wp2_with fail
  refine (phase_calls HU11.out.1.tx).mono ?_
  rintro e w12 ⟨rfl, rfl⟩
  go_wp2_with fail
  refine (phase_calls HV11.out.1.tx).mono ?_
  rintro e w12 ⟨rfl, rfl⟩
  go_wp2_with fail
  refine (phase_calls HW11.out.1.tx).mono ?_
  rintro e w13 ⟨rfl, rfl⟩
  cases over with
  | true =>
    go_wp2_with fail
    refine (abort_is HL11.out.sp HT11.out.1 (by omega)).mono ?_
    rintro e w14 ⟨rfl, S14, hf14, hs14, hl14, hx14, hsv14⟩
    have HL14 := Aside0.mk (HL11.out.step HT11.out hf14 hs14 hl14)
    have HV14 := Aside0.mk (HV11.out.keep HL11.out HT11.out HATV.out hf14)
    have HSV14 : Aside0 (sv S14 aN = ⟨0, [], true, none⟩) := ⟨by
      rw [hsv14, HSV11.out]; unfold Sv.unlock; simp⟩
    clear hf14 hs14 hl14 hx14 hsv14
    go_wp2_with fail
    refine (get_is HL14.out.sp HV14.out.1 aN fit_a rfl).mono ?_
    rintro e w15 ⟨S15, hf15, hs15, hl15, ⟨-, v15, rfl, hr15, hx15, hsv15⟩ | ⟨hno, -⟩⟩
    rotate_left
    · exfalso; exact hno (by rw [HSV14.out]; exact ⟨rfl, Int.le_refl _⟩)
    have HL15 := Aside0.mk (HL14.out.step HV14.out hf15 hs15 hl15)
    have hform : ∃ A c, v15 = .slice A 0 c := by
      rw [HSV14.out] at hr15
      rcases hr15.2 with ⟨rfl, _⟩ | ⟨g, c, cur, rfl, _⟩
      · exact ⟨_, _, rfl⟩
      · exact ⟨_, _, rfl⟩
    obtain ⟨A15, c15, rfl⟩ := hform
    clear hf15 hs15 hl15 hr15 hx15 hsv15
    go_wp2_with fail
    go_returns
    exact ⟨rfl, HL15.out.bel⟩
  | false =>
    go_wp2_with fail
    refine (check_is (.inl rfl) HL11.out.sp HT11.out.1).mono ?_
    rintro e w14 ⟨S14, hf14, hs14, hl14, ⟨-, rfl, hx14, hsv14⟩ | ⟨⟨n, hn, -⟩, -⟩⟩
    rotate_left
    · cases hn
    have HT14 : Aside0 (TxSt w w14 s bm t br bw 0 2 [] [(aN, v3)]) := ⟨⟨hx14, HT11.out.2⟩⟩
    have HL14 := Aside0.mk (HL11.out.step HT11.out hf14 hs14 hl14)
    have HV14 := Aside0.mk (HV11.out.keep HL11.out HT11.out HATV.out hf14)
    have HR14 := Aside0.mk (HR11.out.fr hf14)
    have HSV14 : Aside0 (sv S14 aN = ⟨0, [], true, some t⟩) := ⟨by rw [hsv14]; exact HSV11.out⟩
    clear hf14 hs14 hl14 hx14 hsv14
    go_wp2_with fail
    refine (publish_is (wb := fun _ => xs) HL14.out.sp HT14.out.1 (fun p hp => by
      simp only [List.mem_singleton] at hp
      subst hp; exact HR14.out) (by omega) (by omega)).mono ?_
    rintro e w15 ⟨S15, hf15, hl15, ⟨-, rfl, hs15, hx15, hsv15⟩ | ⟨⟨n, hn, -⟩, -⟩⟩
    rotate_left
    · cases hn
    rw [if_neg (by simp)] at hs15
    have HL15 := Aside0.mk (HL14.out.step HT14.out hf15 hs15 hl15)
    have HV15 := Aside0.mk (HV14.out.keep HL14.out HT14.out HATV.out hf15)
    have HSV15 : Aside0 (sv S15 aN = ⟨1, xs, true, none⟩) := ⟨by
      rw [hsv15, if_pos (has_iff.2 ⟨(aN, v3), List.mem_singleton.2 rfl, rfl⟩), HSV14.out]; unfold Sv.unlock; simp⟩
    clear hf15 hs15 hl15 hx15 hsv15
    go_wp2_with fail
    refine (get_is HL15.out.sp HV15.out.1 aN fit_a rfl).mono ?_
    rintro e w16 ⟨S16, hf16, hs16, hl16, ⟨⟨-, hno⟩, -⟩ | ⟨-, rfl, hx16, hsv16⟩⟩
    · rw [HSV15.out] at hno
      exact absurd hno (by show ¬ (1 : Int) ≤ 0; decide)
    have HL16 := Aside0.mk (HL15.out.step HV15.out hf16 hs16 hl16)
    have HX16 := Aside0.mk hx16
    clear hf16 hs16 hl16 hx16 hsv16
    go_wp2_with fail
    refine (phase_calls HX16.out.tx).mono ?_
    rintro e w17 ⟨rfl, rfl⟩
    go_wp2_with fail
    go_returns
    exact ⟨rfl, HL16.out.bel⟩
end Go.Proofs.Ytkjliijcnllohaa.S
