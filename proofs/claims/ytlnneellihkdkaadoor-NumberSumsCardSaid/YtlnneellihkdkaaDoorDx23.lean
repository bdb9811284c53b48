-- written by wip/pr.py (the kit's print, with hand-proved functions beside it) for this claim
import Derived.Test.YtlnneellihkdkaaDoorDx0
import Derived.Test.YtlnneellihkdkaaDoorDx10
import Derived.Test.YtlnneellihkdkaaDoorDx21
namespace Go.Proofs.YtlnneellihkdkaaDoor.D
open Go.RowKit Go.Proofs.YtlnneellihkdkaaDoorW.PrintWords Go.Proofs.YtlnneellihkdkaaDoorW.PrintLast Go.Proofs.YtlnneellihkdkaaDoorW.PrintMore
attribute [local go_sem] max2_int min2_int max_two min_two max_three min_three max_four min_four   -- for this text's walks alone
set_option linter.unusedVariables false
set_option linter.unusedSimpArgs false

/-! ### rostrumref09_Mul: function 20 -/
mutual
def rostrumref09_Mul.j0 : Nat → ByteArray → ByteArray → Bool → Option (ByteArray × Int)
  | 0, _, _, _ => none
  | k + 1, x0, x1, x21 => if x21 = true then (some ((⟨#[]⟩ : ByteArray), 90)) else ((rostrumref09_of.f k x0).bind fun bt312 => ((rostrumref09_of.f k x1).bind fun bt316 => (if 0 ≤ (wrap64 ((wrap64 ((bt312.1.length : Int) + (bt316.1.length : Int))) + 1)) then (if (wrap64 ((wrap64 ((bt312.1.length : Int) + (bt316.1.length : Int))) + 1) : Int).toNat ≤ 35184372088832 then (rostrumref09_Mul.l0 k (List.replicate (wrap64 ((wrap64 ((bt312.1.length : Int) + (bt316.1.length : Int))) + 1) : Int).toNat 0) bt312.1 (bt312.1.length : Int) 0 bt312.1 bt312.2 bt316.1 bt316.2) else (none)) else (none))))
def rostrumref09_Mul.l0 : Nat → List Int → List Int → Int → Int → List Int → Bool → List Int → Bool → Option (ByteArray × Int)
  | 0, _, _, _, _, _, _, _, _ => none
  | k + 1, x8, x36, x37, x38, x321000, x321001, x322000, x322001 => if x38 < x37 then (if 0 ≤ x38 then (if x38 < (x36.length : Int) then (rostrumref09_Mul.l1 k x8 x38 (rd x36 x38) x36 x37 x38 x322000 (x322000.length : Int) 0 x321000 x321001 x322000 x322001) else (none)) else (none)) else ((rostrumref09_big_text.f k x8 (x321001 != x322001)).bind fun bt325 => (some (bt325.1, bt325.2)))
def rostrumref09_Mul.l1 : Nat → List Int → Int → Int → List Int → Int → Int → List Int → Int → Int → List Int → Bool → List Int → Bool → Option (ByteArray × Int)
  | 0, _, _, _, _, _, _, _, _, _, _, _, _, _ => none
  | k + 1, x8, x9, x10, x36, x37, x38, x44, x45, x46, x321000, x321001, x322000, x322001 => if x46 < x45 then (if 0 ≤ x46 then (if x46 < (x44.length : Int) then (if 0 ≤ (wrap64 (x9 + x46)) then (if (wrap64 (x9 + x46)) < (x8.length : Int) then (rostrumref09_Mul.l1 k (x8.set ((wrap64 (x9 + x46)) : Int).toNat (wrap64 ((rd x8 (wrap64 (x9 + x46))) + (wrap64 (x10 * (rd x44 x46)))))) x9 x10 x36 x37 x38 x44 x45 (wrap64 (x46 + 1)) x321000 x321001 x322000 x322001) else (none)) else (none)) else (none)) else (none)) else (rostrumref09_Mul.l2 k x8 x36 x37 x38 (wrap64 ((x8.length : Int) - 1)) 0 x321000 x321001 x322000 x322001)
def rostrumref09_Mul.l2 : Nat → List Int → List Int → Int → Int → Int → Int → List Int → Bool → List Int → Bool → Option (ByteArray × Int)
  | 0, _, _, _, _, _, _, _, _, _, _ => none
  | k + 1, x8, x36, x37, x38, x65, x66, x321000, x321001, x322000, x322001 => if x66 < x65 then (if 0 ≤ (wrap64 (x66 + 1)) then (if (wrap64 (x66 + 1)) < (x8.length : Int) then (if 0 ≤ x66 then (if x66 < (x8.length : Int) then ((some (x8.set ((wrap64 (x66 + 1)) : Int).toNat (wrap64 ((rd x8 (wrap64 (x66 + 1))) + (wrap64 (Int.tdiv (rd x8 x66) 10)))) : List Int)).bind fun y333 => (rostrumref09_Mul.l2 k (y333.set (x66 : Int).toNat (Int.tmod (rd y333 x66) 10)) x36 x37 x38 x65 (wrap64 (x66 + 1)) x321000 x321001 x322000 x322001)) else (none)) else (none)) else (none)) else (none)) else (rostrumref09_Mul.l0 k x8 x36 x37 (wrap64 (x38 + 1)) x321000 x321001 x322000 x322001)
end
def rostrumref09_Mul.f (k : Nat) (a0 : ByteArray) (a1 : ByteArray) : Option (ByteArray × Int) := (rostrumref09_Can.f k a0).bind fun t310 => (if t310 = true then ((rostrumref09_Can.f k a1).bind fun t311 => (rostrumref09_Mul.j0 k a0 a1 (!t311))) else (rostrumref09_Mul.j0 k a0 a1 true))
theorem rostrumref09_Mul.mono_l : ∀ k, (∀ y0 y1 y2, LeO (rostrumref09_Mul.j0 k y0 y1 y2) (rostrumref09_Mul.j0 (k + 1) y0 y1 y2)) ∧ (∀ y0 y1 y2 y3 y4 y5 y6 y7, LeO (rostrumref09_Mul.l0 k y0 y1 y2 y3 y4 y5 y6 y7) (rostrumref09_Mul.l0 (k + 1) y0 y1 y2 y3 y4 y5 y6 y7)) ∧ (∀ y0 y1 y2 y3 y4 y5 y6 y7 y8 y9 y10 y11 y12, LeO (rostrumref09_Mul.l1 k y0 y1 y2 y3 y4 y5 y6 y7 y8 y9 y10 y11 y12) (rostrumref09_Mul.l1 (k + 1) y0 y1 y2 y3 y4 y5 y6 y7 y8 y9 y10 y11 y12)) ∧ (∀ y0 y1 y2 y3 y4 y5 y6 y7 y8 y9, LeO (rostrumref09_Mul.l2 k y0 y1 y2 y3 y4 y5 y6 y7 y8 y9) (rostrumref09_Mul.l2 (k + 1) y0 y1 y2 y3 y4 y5 y6 y7 y8 y9))
  | 0 => ⟨fun _ _ _ r h => by simp [rostrumref09_Mul.j0] at h, fun _ _ _ _ _ _ _ _ r h => by simp [rostrumref09_Mul.l0] at h, fun _ _ _ _ _ _ _ _ _ _ _ _ _ r h => by simp [rostrumref09_Mul.l1] at h, fun _ _ _ _ _ _ _ _ _ _ r h => by simp [rostrumref09_Mul.l2] at h⟩
  | k + 1 => by
    obtain ⟨ih0, ih1, ih2, ih3⟩ := rostrumref09_Mul.mono_l k
    refine ⟨?_, ?_, ?_, ?_⟩
    · intro y0 y1 y2
      unfold rostrumref09_Mul.j0
      repeat' first
      | (with_reducible exact ih0 _ _ _)
      | (with_reducible exact ih1 _ _ _ _ _ _ _ _)
      | (with_reducible exact ih2 _ _ _ _ _ _ _ _ _ _ _ _ _)
      | (with_reducible exact ih3 _ _ _ _ _ _ _ _ _ _)
      | (with_reducible exact rostrumref09_Can.mono _ _)
      | (with_reducible exact rostrumref09_big_text.mono _ _ _)
      | (with_reducible exact rostrumref09_of.mono _ _)
      | (with_reducible exact LeO.refl _)
      | (with_reducible exact LeO.none _)
      | (with_reducible refine LeO.ite ?_ ?_)
      | (with_reducible refine LeO.bind ?_ (fun _ => ?_))
      | exact ih0 _ _ _
      | exact ih1 _ _ _ _ _ _ _ _
      | exact ih2 _ _ _ _ _ _ _ _ _ _ _ _ _
      | exact ih3 _ _ _ _ _ _ _ _ _ _
      | exact rostrumref09_Can.mono _ _
      | exact rostrumref09_big_text.mono _ _ _
      | exact rostrumref09_of.mono _ _
      | exact LeO.none _
      | refine LeO.ite ?_ ?_
      | refine LeO.bind ?_ (fun _ => ?_)
    · intro y0 y1 y2 y3 y4 y5 y6 y7
      unfold rostrumref09_Mul.l0
      repeat' first
      | (with_reducible exact ih0 _ _ _)
      | (with_reducible exact ih1 _ _ _ _ _ _ _ _)
      | (with_reducible exact ih2 _ _ _ _ _ _ _ _ _ _ _ _ _)
      | (with_reducible exact ih3 _ _ _ _ _ _ _ _ _ _)
      | (with_reducible exact rostrumref09_Can.mono _ _)
      | (with_reducible exact rostrumref09_big_text.mono _ _ _)
      | (with_reducible exact rostrumref09_of.mono _ _)
      | (with_reducible exact LeO.refl _)
      | (with_reducible exact LeO.none _)
      | (with_reducible refine LeO.ite ?_ ?_)
      | (with_reducible refine LeO.bind ?_ (fun _ => ?_))
      | exact ih0 _ _ _
      | exact ih1 _ _ _ _ _ _ _ _
      | exact ih2 _ _ _ _ _ _ _ _ _ _ _ _ _
      | exact ih3 _ _ _ _ _ _ _ _ _ _
      | exact rostrumref09_Can.mono _ _
      | exact rostrumref09_big_text.mono _ _ _
      | exact rostrumref09_of.mono _ _
      | exact LeO.none _
      | refine LeO.ite ?_ ?_
      | refine LeO.bind ?_ (fun _ => ?_)
    · intro y0 y1 y2 y3 y4 y5 y6 y7 y8 y9 y10 y11 y12
      unfold rostrumref09_Mul.l1
      repeat' first
      | (with_reducible exact ih0 _ _ _)
      | (with_reducible exact ih1 _ _ _ _ _ _ _ _)
      | (with_reducible exact ih2 _ _ _ _ _ _ _ _ _ _ _ _ _)
      | (with_reducible exact ih3 _ _ _ _ _ _ _ _ _ _)
      | (with_reducible exact rostrumref09_Can.mono _ _)
      | (with_reducible exact rostrumref09_big_text.mono _ _ _)
      | (with_reducible exact rostrumref09_of.mono _ _)
      | (with_reducible exact LeO.refl _)
      | (with_reducible exact LeO.none _)
      | (with_reducible refine LeO.ite ?_ ?_)
      | (with_reducible refine LeO.bind ?_ (fun _ => ?_))
      | exact ih0 _ _ _
      | exact ih1 _ _ _ _ _ _ _ _
      | exact ih2 _ _ _ _ _ _ _ _ _ _ _ _ _
      | exact ih3 _ _ _ _ _ _ _ _ _ _
      | exact rostrumref09_Can.mono _ _
      | exact rostrumref09_big_text.mono _ _ _
      | exact rostrumref09_of.mono _ _
      | exact LeO.none _
      | refine LeO.ite ?_ ?_
      | refine LeO.bind ?_ (fun _ => ?_)
    · intro y0 y1 y2 y3 y4 y5 y6 y7 y8 y9
      unfold rostrumref09_Mul.l2
      repeat' first
      | (with_reducible exact ih0 _ _ _)
      | (with_reducible exact ih1 _ _ _ _ _ _ _ _)
      | (with_reducible exact ih2 _ _ _ _ _ _ _ _ _ _ _ _ _)
      | (with_reducible exact ih3 _ _ _ _ _ _ _ _ _ _)
      | (with_reducible exact rostrumref09_Can.mono _ _)
      | (with_reducible exact rostrumref09_big_text.mono _ _ _)
      | (with_reducible exact rostrumref09_of.mono _ _)
      | (with_reducible exact LeO.refl _)
      | (with_reducible exact LeO.none _)
      | (with_reducible refine LeO.ite ?_ ?_)
      | (with_reducible refine LeO.bind ?_ (fun _ => ?_))
      | exact ih0 _ _ _
      | exact ih1 _ _ _ _ _ _ _ _
      | exact ih2 _ _ _ _ _ _ _ _ _ _ _ _ _
      | exact ih3 _ _ _ _ _ _ _ _ _ _
      | exact rostrumref09_Can.mono _ _
      | exact rostrumref09_big_text.mono _ _ _
      | exact rostrumref09_of.mono _ _
      | exact LeO.none _
      | refine LeO.ite ?_ ?_
      | refine LeO.bind ?_ (fun _ => ?_)
theorem rostrumref09_Mul.mono : ∀ a0 a1 k, LeO (rostrumref09_Mul.f k a0 a1) (rostrumref09_Mul.f (k + 1) a0 a1) := by
  intro a0 a1 k
  obtain ⟨ih0, ih1, ih2, ih3⟩ := rostrumref09_Mul.mono_l k
  unfold rostrumref09_Mul.f
  repeat' first
      | (with_reducible exact ih0 _ _ _)
      | (with_reducible exact ih1 _ _ _ _ _ _ _ _)
      | (with_reducible exact ih2 _ _ _ _ _ _ _ _ _ _ _ _ _)
      | (with_reducible exact ih3 _ _ _ _ _ _ _ _ _ _)
      | (with_reducible exact rostrumref09_Can.mono _ _)
      | (with_reducible exact rostrumref09_big_text.mono _ _ _)
      | (with_reducible exact rostrumref09_of.mono _ _)
      | (with_reducible exact LeO.refl _)
      | (with_reducible exact LeO.none _)
      | (with_reducible refine LeO.ite ?_ ?_)
      | (with_reducible refine LeO.bind ?_ (fun _ => ?_))
      | exact ih0 _ _ _
      | exact ih1 _ _ _ _ _ _ _ _
      | exact ih2 _ _ _ _ _ _ _ _ _ _ _ _ _
      | exact ih3 _ _ _ _ _ _ _ _ _ _
      | exact rostrumref09_Can.mono _ _
      | exact rostrumref09_big_text.mono _ _ _
      | exact rostrumref09_of.mono _ _
      | exact LeO.none _
      | refine LeO.ite ?_ ?_
      | refine LeO.bind ?_ (fun _ => ?_)
def rostrumref09_Mul.T16 : Bool × List (List Nat × List Nat) := (true, [([], []), ([], []), ([1], [1]), ([0, 2], [0, 2]), ([3], [3]), ([], []), ([], []), ([5, 6], [5, 6]), ([7], [7]), ([8], [8]), ([4, 9], [4, 9]), ([0, 2, 0, 1, 2, 3, 4, 5, 6, 7, 8, 9, 10], [0, 2]), ([11, 10, 0, 1, 2, 3, 4, 5, 6, 7, 8, 9, 10], [10, 11])])
def rostrumref09_Mul.B16 : List Nat := [0, 0, 2, 7, 15, 0, 0, 96, 224, 480, 1023, 2047, 4095]
theorem rostrumref09_Mul.tab16 : rtab .any (opsOf Tryd.f20 16) = rostrumref09_Mul.T16 := by kernel_rfl
theorem rostrumref09_Mul.bits16 : waitsOk rostrumref09_Mul.T16.2 rostrumref09_Mul.B16 = true := by kernel_rfl
set_option maxHeartbeats 8000000 in
set_option maxRecDepth 100000 in
theorem rostrumref09_Mul.calls (k : Nat) (a0 : ByteArray) (a1 : ByteArray) (r1 : ByteArray) (r2 : Int) (w : World) (h : rostrumref09_Mul.f k a0 a1 = some (r1, r2)) :
    Calls Tryd.prog 20 #[.string a0, .string a1] w fun e w' => e = .returned (.tuple #[.string r1, .int .i64 r2]) ∧ Below w.heap.size w w' := by
  have hu52 := Tryd.underlying52
  have HB := Aside0.mk (Below.refl w.heap.size w)
  have H : ((rostrumref09_Can.f k a0).bind fun t310 => (if t310 = true then ((rostrumref09_Can.f k a1).bind fun t311 => (rostrumref09_Mul.j0 k a0 a1 (!t311))) else (rostrumref09_Mul.j0 k a0 a1 true))) = some (r1, r2) := h
  clear h
  have HC3 := Aside0.mk H
  clear H
  go_enter Tryd.func20, Tryd.ntmps20
  go_upto_region 1 with (fail)
  go_cut [21] (fun v21 wc => ∃ (kq : Nat) (x21_2 : Bool), v21 = .bool x21_2 ∧ Aside0 (rostrumref09_Mul.j0 kq a0 a1 x21_2 = some (r1, r2)) ∧ Aside0 (kq ≤ k) ∧ Aside0 (Below w.heap.size w wc))
  case first =>
    have H := HC3.out
    clear HC3
    replace H := Option.bind_eq_some_iff.mp H
    obtain ⟨t310, A40, H⟩ := H
    replace H : (if t310 = true then ((rostrumref09_Can.f k a1).bind fun t311 => (rostrumref09_Mul.j0 k a0 a1 (!t311))) else (rostrumref09_Mul.j0 k a0 a1 true)) = some (r1, r2) := H
    have A4 := Aside0.mk A40
    clear A40
    by_cases c5 : t310 = true
    · subst c5
      have H1 : ((rostrumref09_Can.f k a1).bind fun t311 => (rostrumref09_Mul.j0 k a0 a1 (!t311))) = some (r1, r2) := by rw [if_pos rfl] at H; exact H
      clear H
      have H := H1
      clear H1
      replace H := Option.bind_eq_some_iff.mp H
      obtain ⟨t311, A60, H⟩ := H
      replace H : (rostrumref09_Mul.j0 k a0 a1 (!t311)) = some (r1, r2) := H
      have A6 := Aside0.mk A60
      clear A60
      have H' := Aside0.mk H
      clear H
      go_wp2_with (first | ((with_reducible refine gate_callee (f := 13) rfl ?_); refine goesL_ (some 15) rfl rfl Tryd.func13 (by kernel_rfl) rfl #[.string a0] rfl (by (try simp only [List.map_toArray, List.map_cons, List.map_nil]); first | done | rfl | (simp only [List.length_drop, List.length_take]; rfl)) ?_; (with_reducible refine (rostrumref09_Can.calls k a0 true _ A4.out).mono ?_); rintro e w' ⟨rfl, ⟨nd, rfl⟩⟩; refine ⟨_, rfl, ?_⟩) | (go_at_call 13; (with_reducible refine (rostrumref09_Can.calls k a1 t311 _ A6.out).mono ?_); rintro e w' ⟨rfl, ⟨nd, rfl⟩⟩))
      go_meet
      case rel => exact ⟨_, (!t311), (by first | rfl | (simp; done) | (simp [*]; done)), H', ⟨by first | omega | exact Nat.le_refl _⟩, ⟨by repeat (first | (with_reducible first | exact HB.out | apply below_alloc | apply pw_below_drewN | apply below_drew1) | exact HB.out)⟩⟩
    · replace c5 := Bool.eq_false_iff.mpr c5
      subst c5
      have H1 : (rostrumref09_Mul.j0 k a0 a1 true) = some (r1, r2) := by rw [if_neg (show ¬ (false = true) by decide)] at H; exact H
      clear H
      have H := H1
      clear H1
      have H' := Aside0.mk H
      clear H
      go_wp2_with (first | ((with_reducible refine gate_callee (f := 13) rfl ?_); refine goesL_ (some 15) rfl rfl Tryd.func13 (by kernel_rfl) rfl #[.string a0] rfl (by (try simp only [List.map_toArray, List.map_cons, List.map_nil]); first | done | rfl | (simp only [List.length_drop, List.length_take]; rfl)) ?_; (with_reducible refine (rostrumref09_Can.calls k a0 false _ A4.out).mono ?_); rintro e w' ⟨rfl, ⟨nd, rfl⟩⟩; refine ⟨_, rfl, ?_⟩))
      go_meet
      case rel => exact ⟨_, (true), (by first | rfl | (simp; done) | (simp [*]; done)), H', ⟨by first | omega | exact Nat.le_refl _⟩, ⟨by repeat (first | (with_reducible first | exact HB.out | apply below_alloc | apply pw_below_drewN | apply below_drew1) | exact HB.out)⟩⟩
  case rest =>
    clear HC3
    try clear c1
    try clear c2
    try clear p2
    try clear c5
    obtain ⟨kq, x21_2, rfl, HA, HJ2, HB⟩ := hcut
    cases kq with
    | zero => exact absurd HA.out (by simp [rostrumref09_Mul.j0])
    | succ kj2 =>
      have H := HA.out
      clear HA
      simp only [rostrumref09_Mul.j0] at H
      by_cases c7 : x21_2 = true
      · subst c7
        have H1 : (some ((⟨#[]⟩ : ByteArray), 90)) = some (r1, r2) := by rw [if_pos rfl] at H; exact H
        clear H
        have H := H1
        clear H1
        simp only [Option.some.injEq, Prod.mk.injEq] at H
        obtain ⟨rfl, rfl⟩ := H
        go_wp2
        go_ret2
        exact ⟨by first | rfl | (simp [errW_none, errW_some] <;> rfl) | (simp [*, errW_none, errW_some] <;> rfl), by repeat (first | (with_reducible first | exact HB.out | apply below_alloc | apply pw_below_drewN | apply below_drew1) | exact HB.out)⟩
      · replace c7 := Bool.eq_false_iff.mpr c7
        subst c7
        have H1 : ((rostrumref09_of.f kj2 a0).bind fun bt312 => ((rostrumref09_of.f kj2 a1).bind fun bt316 => (if 0 ≤ (wrap64 ((wrap64 ((bt312.1.length : Int) + (bt316.1.length : Int))) + 1)) then (if (wrap64 ((wrap64 ((bt312.1.length : Int) + (bt316.1.length : Int))) + 1) : Int).toNat ≤ 35184372088832 then (rostrumref09_Mul.l0 kj2 (List.replicate (wrap64 ((wrap64 ((bt312.1.length : Int) + (bt316.1.length : Int))) + 1) : Int).toNat 0) bt312.1 (bt312.1.length : Int) 0 bt312.1 bt312.2 bt316.1 bt316.2) else (none)) else (none)))) = some (r1, r2) := by rw [if_neg (show ¬ (false = true) by decide)] at H; exact H
        clear H
        have H := H1
        clear H1
        replace H := Option.bind_eq_some_iff.mp H
        obtain ⟨⟨t312, t315⟩, A80, H⟩ := H
        replace H : ((rostrumref09_of.f kj2 a1).bind fun bt316 => (if 0 ≤ (wrap64 ((wrap64 ((t312.length : Int) + (bt316.1.length : Int))) + 1)) then (if (wrap64 ((wrap64 ((t312.length : Int) + (bt316.1.length : Int))) + 1) : Int).toNat ≤ 35184372088832 then (rostrumref09_Mul.l0 kj2 (List.replicate (wrap64 ((wrap64 ((t312.length : Int) + (bt316.1.length : Int))) + 1) : Int).toNat 0) t312 (t312.length : Int) 0 t312 t315 bt316.1 bt316.2) else (none)) else (none))) = some (r1, r2) := H
        have A8 := Aside0.mk A80
        clear A80
        replace H := Option.bind_eq_some_iff.mp H
        obtain ⟨⟨t316, t319⟩, A90, H⟩ := H
        replace H : (if 0 ≤ (wrap64 ((wrap64 ((t312.length : Int) + (t316.length : Int))) + 1)) then (if (wrap64 ((wrap64 ((t312.length : Int) + (t316.length : Int))) + 1) : Int).toNat ≤ 35184372088832 then (rostrumref09_Mul.l0 kj2 (List.replicate (wrap64 ((wrap64 ((t312.length : Int) + (t316.length : Int))) + 1) : Int).toNat 0) t312 (t312.length : Int) 0 t312 t315 t316 t319) else (none)) else (none)) = some (r1, r2) := H
        have A9 := Aside0.mk A90
        clear A90
        obtain ⟨ji10, hji10⟩ : ∃ j_ : Int, (wrap64 ((wrap64 ((t312.length : Int) + (t316.length : Int))) + 1)) = j_ := ⟨_, rfl⟩
        replace H : (if 0 ≤ (ji10) then (if (ji10 : Int).toNat ≤ 35184372088832 then (rostrumref09_Mul.l0 kj2 (List.replicate (ji10 : Int).toNat 0) t312 (t312.length : Int) 0 t312 t315 t316 t319) else (none)) else (none)) = some (r1, r2) := by first | (rw [hji10] at H; exact H) | (simp only [hji10] at H ⊢; exact H)
        (try rw [hji10] at A8)
        (try rw [hji10] at A9)
        have hji10w : (IntKind.i64.wrap ((wrap64 ((t312.length : Int) + (t316.length : Int))) + 1)) = ji10 := (i64_w _).trans hji10
        by_cases c11 : 0 ≤ (ji10)
        · rw [if_pos c11] at H
          have c11b0 := eq_true c11
          have c11b1 : decide (0 ≤ (ji10)) = true := decide_eq_true c11
          clear c11
          by_cases c12 : (ji10 : Int).toNat ≤ 35184372088832
          · rw [if_pos c12] at H
            have c12b0 := eq_true c12
            have c12b1 : decide ((ji10 : Int).toNat ≤ 35184372088832) = true := decide_eq_true c12
            clear c12
            obtain ⟨y322, hy322⟩ : ∃ y_ : List Int, y_ = (List.replicate (ji10 : Int).toNat 0) := ⟨_, rfl⟩
            replace H : (rostrumref09_Mul.l0 kj2 y322 t312 (t312.length : Int) 0 t312 t315 t316 t319) = some (r1, r2) := by first | (rw [hy322]; with_reducible exact H) | (have H2_ := (Option.bind_some _ _).symm.trans H; rw [hy322]; with_reducible exact H2_) | (have H2_ := (Option.bind_some _ _).symm.trans H; with_reducible exact H2_) | with_reducible exact H | (rw [hy322]; exact H) | exact H
            have Ny322 := Aside0.mk hy322
            clear hy322
            have H' := Aside0.mk H
            clear H
            go_wp2_with (first | ((with_reducible refine gate_callee (f := 37) rfl ?_); refine goesL_ (some 23) rfl rfl Tryd.func37 (by kernel_rfl) rfl #[.string a0] rfl (by (try simp only [List.map_toArray, List.map_cons, List.map_nil]); first | done | rfl | (simp only [List.length_drop, List.length_take]; rfl)) ?_; (with_reducible refine (rostrumref09_of.calls kj2 a0 t312 t315 _ A8.out).mono ?_); rintro e w13 ⟨v313, rfl, ho0, hb⟩; refine ⟨_, rfl, ?_⟩; have n0_ := Aside0.mk (Kd.R_lower ho0 (below_size (by repeat (first | (with_reducible first | exact HB.out | apply below_alloc | apply pw_below_drewN | apply below_drew1) | exact HB.out)))); have n1_ := Aside0.mk (below_step (by repeat (first | (with_reducible first | exact HB.out | apply below_alloc | apply pw_below_drewN | apply below_drew1) | exact HB.out)) hb); clear HB; have HO314 := n0_; have HB := n1_; clear n0_ n1_; (try clear hb); (try clear hb2); (try clear hk); (try clear hi); (try clear ho0)) | ((with_reducible refine gate_callee (f := 37) rfl ?_); refine goesL_ (some 25) rfl rfl Tryd.func37 (by kernel_rfl) rfl #[.string a1] rfl (by (try simp only [List.map_toArray, List.map_cons, List.map_nil]); first | done | rfl | (simp only [List.length_drop, List.length_take]; rfl)) ?_; (with_reducible refine (rostrumref09_of.calls kj2 a1 t316 t319 _ A9.out).mono ?_); rintro e w14 ⟨v317, rfl, ho0, hb⟩; refine ⟨_, rfl, ?_⟩; have n0_ := Aside0.mk (Kd.R_elder' (by (with_reducible repeat (first | apply Kd.R_alloc | apply Kd.R_drewN | apply Kd.R_drew)); exact HO314.out) (Kd.R_base ho0) hb); have n1_ := Aside0.mk (Kd.R_lower (Kd.R_new' ho0 (Kd.R_lt (by (with_reducible repeat (first | apply Kd.R_alloc | apply Kd.R_drewN | apply Kd.R_drew)); exact HO314.out))) (below_size (by repeat (first | (with_reducible first | exact HB.out | apply below_alloc | apply pw_below_drewN | apply below_drew1) | exact HB.out)))); have n2_ := Aside0.mk (below_step (by repeat (first | (with_reducible first | exact HB.out | apply below_alloc | apply pw_below_drewN | apply below_drew1) | exact HB.out)) hb); clear HO314; clear HB; have HO314 := n0_; have HO318 := n1_; have HB := n2_; clear n0_ n1_ n2_; (try clear hb); (try clear hb2); (try clear hk); (try clear hi); (try clear ho0)) | ((with_reducible refine gate_dst (N := 6) rfl ?_); refine box_event ?hg (N := 6) ?hd (cs := #[.slice none 0 0, .bool false]) (t := 52) ?hr ?_; (case hd => rfl); (case hg => rfl); (case hr => first | (go_simp; done) | (go_simp; rfl)); intro gb320 hg w15 hbox hb; have n0_ := Aside0.mk (Kd.R_below (by (with_reducible repeat (first | apply Kd.R_alloc | apply Kd.R_drewN | apply Kd.R_drew)); exact HO314.out) hb); have n1_ := Aside0.mk (Kd.R_below (by (with_reducible repeat (first | apply Kd.R_alloc | apply Kd.R_drewN | apply Kd.R_drew)); exact HO318.out) hb); have n2_ := Aside0.mk (below_step (by repeat (first | (with_reducible first | exact HB.out | apply below_alloc | apply pw_below_drewN | apply below_drew1) | exact HB.out)) hb); have n3_ := Aside0.mk (hbox); have n4_ := Aside0.mk ((by rw [hg]; exact (below_size (by repeat (first | (with_reducible first | exact HB.out | apply below_alloc | apply pw_below_drewN | apply below_drew1) | exact HB.out))) : w.heap.size ≤ gb320)); have n5_ := Aside0.mk ((by rw [hg]; exact (below_size (by repeat (first | (with_reducible first | exact HB.out | apply below_alloc | apply pw_below_drewN | apply below_drew1) | exact HB.out))) : w.heap.size ≤ gb320)); clear HO314; clear HO318; clear HB; have HO314 := n0_; have HO318 := n1_; have HB := n2_; have BK320 := n3_; have GW320 := n4_; have GE320 := n5_; clear n0_ n1_ n2_ n3_ n4_ n5_; clear hb hbox hg) | ((with_reducible refine gate_dst (N := 7) rfl ?_); refine box_event ?hg (N := 7) ?hd (cs := #[.slice none 0 0, .bool false]) (t := 52) ?hr ?_; (case hd => rfl); (case hg => rfl); (case hr => first | (go_simp; done) | (go_simp; rfl)); intro gb321 hg w16 hbox hb; have n0_ := Aside0.mk (Kd.R_below (by (with_reducible repeat (first | apply Kd.R_alloc | apply Kd.R_drewN | apply Kd.R_drew)); exact HO314.out) hb); have n1_ := Aside0.mk (Kd.R_below (by (with_reducible repeat (first | apply Kd.R_alloc | apply Kd.R_drewN | apply Kd.R_drew)); exact HO318.out) hb); have n2_ := Aside0.mk (blk_below (g := gb320) (o := .cells #[.slice none 0 0, .bool false] 52 (0, 0)) (by (with_reducible repeat (first | refine blk_drewN ?_ _ | refine blk_drew ?_ | refine blk_alloc ?_ _)); exact BK320.out) hb); have n3_ := Aside0.mk (below_step (by repeat (first | (with_reducible first | exact HB.out | apply below_alloc | apply pw_below_drewN | apply below_drew1 | refine below_set ?_ GE320.out) | exact HB.out)) hb); have n4_ := Aside0.mk (hbox); have n5_ := Aside0.mk ((by rw [hg]; exact (below_size (by repeat (first | (with_reducible first | exact HB.out | apply below_alloc | apply pw_below_drewN | apply below_drew1 | refine below_set ?_ GE320.out) | exact HB.out))) : w.heap.size ≤ gb321)); have n6_ := Aside0.mk ((by rw [hg]; exact (below_size (by repeat (first | (with_reducible first | exact HB.out | apply below_alloc | apply pw_below_drewN | apply below_drew1 | refine below_set ?_ GE320.out) | exact HB.out))) : w.heap.size ≤ gb321)); have n7_ := Aside0.mk ((by rw [hg]; exact Nat.ne_of_lt (blk_lt (g := gb320) (o := .cells #[.slice none 0 0, .bool false] 52 (0, 0)) (by (with_reducible repeat (first | refine blk_drewN ?_ _ | refine blk_drew ?_ | refine blk_alloc ?_ _)); exact BK320.out)) : gb320 ≠ gb321)); have n8_ := Aside0.mk ((by rw [hg]; exact Nat.ne_of_gt (blk_lt (g := gb320) (o := .cells #[.slice none 0 0, .bool false] 52 (0, 0)) (by (with_reducible repeat (first | refine blk_drewN ?_ _ | refine blk_drew ?_ | refine blk_alloc ?_ _)); exact BK320.out)) : gb321 ≠ gb320)); clear HO314; clear HO318; clear BK320; clear HB; have HO314 := n0_; have HO318 := n1_; have BK320 := n2_; have HB := n3_; have BK321 := n4_; have GW321 := n5_; have GE321 := n6_; have NB320_321 := n7_; have NB321_320 := n8_; clear n0_ n1_ n2_ n3_ n4_ n5_ n6_ n7_ n8_; clear hb hbox hg; obtain ⟨Ao17, co17, eo17⟩ := Kd.R_slice HO314.out; subst eo17; have hnb18 := NB320_321.out; have hnc18 := NB321_320.out; have hcz19_0 : w16.cell? ⟨gb320, 0, none⟩ = some (.slice none 0 0) := (blk_cell BK320.out 0).trans rfl; have hcz19_1 : w16.cell? ⟨gb320, 1, none⟩ = some (.bool false) := (blk_cell BK320.out 1).trans rfl; have hfz19_0 := blk_frozen BK320.out 0; have hfz19_1 := blk_frozen BK320.out 1; obtain ⟨Ao20, co20, eo20⟩ := Kd.R_slice HO318.out; subst eo20; have hcz21_0 : w16.cell? ⟨gb321, 0, none⟩ = some (.slice none 0 0) := (blk_cell BK321.out 0).trans rfl; have hcz21_1 : w16.cell? ⟨gb321, 1, none⟩ = some (.bool false) := (blk_cell BK321.out 1).trans rfl; have hfz21_0 := blk_frozen BK321.out 0; have hfz21_1 := blk_frozen BK321.out 1) | ((with_reducible refine gate_dst (N := 34) rfl ?_); refine Kd.R_make (Kd.int .i64) _ 3 rfl (N := 34) rfl 50 _ _ rfl ji10 rfl rfl Tryd.underlying50 (.int .i64 0) 8 info3 rfl (by decide) (by omega) 0 (ok := fun _ => True) (okp := fun _ => True) rfl (fun _ hk => hk) trivial (of_decide_eq_true (by first | (with_reducible assumption) | assumption)) (Nat.le_trans (Nat.mul_le_mul_right _ (of_decide_eq_true (by first | (with_reducible assumption) | assumption) : ji10.toNat ≤ 35184372088832)) (by omega)) (Below.refl _ _) (Nat.le_refl _) ?_; intro v323 w22 ho23 hb hg_ hnew_; clear hg_ hnew_; (first | rw [← Ny322.out] at ho23 | (simp only [Int.reduceToNat] at ho23; rw [← Ny322.out] at ho23)); have n0_ := Aside0.mk (Kd.R_elder' (by (with_reducible repeat (first | apply Kd.R_alloc | apply Kd.R_drewN | apply Kd.R_drew)); exact (Kd.R_mono (Kd.R_mono (Kd.R_far (p := ⟨gb321, 1, none⟩) (Kd.R_far (p := ⟨gb321, 0, none⟩) (Kd.R_far (p := ⟨gb320, 1, none⟩) (Kd.R_far (p := ⟨gb320, 0, none⟩) (Kd.R_types (Kd.R_types HO314.out BK320.out (by decide)) BK321.out (by decide)) (fun _ hk => hk.1.2) (.slice Ao17 t312.length co17)) (fun _ hk => hk.1.2) (.bool t315)) (fun _ hk => hk.2) (.slice Ao20 t316.length co20)) (fun _ hk => hk.2) (.bool t319)) (fun _ h_ => h_.1)) (fun _ h_ => h_.1))) (Kd.R_base ho23) hb); have n1_ := Aside0.mk (Kd.R_elder' (by (with_reducible repeat (first | apply Kd.R_alloc | apply Kd.R_drewN | apply Kd.R_drew)); exact (Kd.R_mono (Kd.R_mono (Kd.R_far (p := ⟨gb321, 1, none⟩) (Kd.R_far (p := ⟨gb321, 0, none⟩) (Kd.R_far (p := ⟨gb320, 1, none⟩) (Kd.R_far (p := ⟨gb320, 0, none⟩) (Kd.R_types (Kd.R_types HO318.out BK320.out (by decide)) BK321.out (by decide)) (fun _ hk => hk.1.2) (.slice Ao17 t312.length co17)) (fun _ hk => hk.1.2) (.bool t315)) (fun _ hk => hk.2) (.slice Ao20 t316.length co20)) (fun _ hk => hk.2) (.bool t319)) (fun _ h_ => h_.1)) (fun _ h_ => h_.1))) (Kd.R_base ho23) hb); have n2_ := Aside0.mk (Kd.R_lower (Kd.R_new' (Kd.R_new' ho23 (Kd.R_lt (by (with_reducible repeat (first | apply Kd.R_alloc | apply Kd.R_drewN | apply Kd.R_drew)); exact (Kd.R_mono (Kd.R_mono (Kd.R_far (p := ⟨gb321, 1, none⟩) (Kd.R_far (p := ⟨gb321, 0, none⟩) (Kd.R_far (p := ⟨gb320, 1, none⟩) (Kd.R_far (p := ⟨gb320, 0, none⟩) (Kd.R_types (Kd.R_types HO314.out BK320.out (by decide)) BK321.out (by decide)) (fun _ hk => hk.1.2) (.slice Ao17 t312.length co17)) (fun _ hk => hk.1.2) (.bool t315)) (fun _ hk => hk.2) (.slice Ao20 t316.length co20)) (fun _ hk => hk.2) (.bool t319)) (fun _ h_ => h_.1)) (fun _ h_ => h_.1))))) (Kd.R_lt (by (with_reducible repeat (first | apply Kd.R_alloc | apply Kd.R_drewN | apply Kd.R_drew)); exact (Kd.R_mono (Kd.R_mono (Kd.R_far (p := ⟨gb321, 1, none⟩) (Kd.R_far (p := ⟨gb321, 0, none⟩) (Kd.R_far (p := ⟨gb320, 1, none⟩) (Kd.R_far (p := ⟨gb320, 0, none⟩) (Kd.R_types (Kd.R_types HO318.out BK320.out (by decide)) BK321.out (by decide)) (fun _ hk => hk.1.2) (.slice Ao17 t312.length co17)) (fun _ hk => hk.1.2) (.bool t315)) (fun _ hk => hk.2) (.slice Ao20 t316.length co20)) (fun _ hk => hk.2) (.bool t319)) (fun _ h_ => h_.1)) (fun _ h_ => h_.1))))) (below_size (by repeat (first | (with_reducible first | exact HB.out | apply below_alloc | apply pw_below_drewN | apply below_drew1 | refine below_set ?_ GE320.out | refine below_set ?_ GE321.out) | exact HB.out)))); have n3_ := Aside0.mk (blk_below (g := gb320) (o := .cells #[.slice Ao17 t312.length co17, .bool t315] 52 (0, 0)) (by (with_reducible repeat (first | refine blk_drewN ?_ _ | refine blk_drew ?_ | refine blk_alloc ?_ _)); refine blk_far ?_ NB320_321.out _; (with_reducible repeat (first | refine blk_drewN ?_ _ | refine blk_drew ?_ | refine blk_alloc ?_ _)); refine blk_far ?_ NB320_321.out _; (with_reducible repeat (first | refine blk_drewN ?_ _ | refine blk_drew ?_ | refine blk_alloc ?_ _)); refine blk_put (cs := #[.slice Ao17 t312.length co17, .bool false]) ?_ 1 _ rfl; (with_reducible repeat (first | refine blk_drewN ?_ _ | refine blk_drew ?_ | refine blk_alloc ?_ _)); refine blk_put (cs := #[.slice none 0 0, .bool false]) ?_ 0 _ rfl; (with_reducible repeat (first | refine blk_drewN ?_ _ | refine blk_drew ?_ | refine blk_alloc ?_ _)); exact BK320.out) hb); have n4_ := Aside0.mk (blk_below (g := gb321) (o := .cells #[.slice Ao20 t316.length co20, .bool t319] 52 (0, 0)) (by (with_reducible repeat (first | refine blk_drewN ?_ _ | refine blk_drew ?_ | refine blk_alloc ?_ _)); refine blk_put (cs := #[.slice Ao20 t316.length co20, .bool false]) ?_ 1 _ rfl; (with_reducible repeat (first | refine blk_drewN ?_ _ | refine blk_drew ?_ | refine blk_alloc ?_ _)); refine blk_put (cs := #[.slice none 0 0, .bool false]) ?_ 0 _ rfl; (with_reducible repeat (first | refine blk_drewN ?_ _ | refine blk_drew ?_ | refine blk_alloc ?_ _)); refine blk_far ?_ NB321_320.out _; (with_reducible repeat (first | refine blk_drewN ?_ _ | refine blk_drew ?_ | refine blk_alloc ?_ _)); refine blk_far ?_ NB321_320.out _; (with_reducible repeat (first | refine blk_drewN ?_ _ | refine blk_drew ?_ | refine blk_alloc ?_ _)); exact BK321.out) hb); have n5_ := Aside0.mk (below_step (by repeat (first | (with_reducible first | exact HB.out | apply below_alloc | apply pw_below_drewN | apply below_drew1 | refine below_set ?_ GE320.out | refine below_set ?_ GE321.out) | exact HB.out)) hb); clear HO314; clear HO318; clear BK320; clear BK321; clear HB; have HO314 := n0_; have HO318 := n1_; have HO324 := n2_; have BK320 := n3_; have BK321 := n4_; have HB := n5_; clear n0_ n1_ n2_ n3_ n4_ n5_; clear hb ho23; have hcz24_0 : w22.cell? ⟨gb320, 0, none⟩ = some (.slice Ao17 t312.length co17) := (blk_cell BK320.out 0).trans rfl; have hcz24_1 : w22.cell? ⟨gb320, 1, none⟩ = some (.bool t315) := (blk_cell BK320.out 1).trans rfl; have hfz24_0 := blk_frozen BK320.out 0; have hfz24_1 := blk_frozen BK320.out 1))
            go_loopg [38] kj2 (fun kq v38 w' => ∃ (x8_2 : List Int) (x38_2 : Int), v38 = .int .i64 x38_2 ∧ Aside0 (rostrumref09_Mul.l0 kq x8_2 t312 (t312.length : Int) x38_2 t312 t315 t316 t319 = some (r1, r2)) ∧ Aside0 (kq ≤ kj2) ∧ Aside0 (Kd.R (Kd.int .i64) 3 w' w.heap.size (fun k_ => some k_ ≠ ((.slice Ao17 t312.length co17) : Value).ownBlock ∧ some k_ ≠ ((.slice Ao17 t312.length co17) : Value).ownBlock ∧ some k_ ≠ ((.slice Ao20 t316.length co20) : Value).ownBlock) v323 x8_2) ∧ Aside0 (Kd.R (Kd.int .i64) 3 w' w.heap.size (fun k_ => some k_ ≠ (v323 : Value).ownBlock ∧ some k_ ≠ ((.slice Ao20 t316.length co20) : Value).ownBlock) (.slice Ao17 t312.length co17) t312) ∧ Aside0 (Kd.R (Kd.int .i64) 3 w' w.heap.size (fun k_ => some k_ ≠ (v323 : Value).ownBlock ∧ some k_ ≠ ((.slice Ao20 t316.length co20) : Value).ownBlock) (.slice Ao17 t312.length co17) t312) ∧ Aside0 (Kd.R (Kd.int .i64) 3 w' w.heap.size (fun k_ => some k_ ≠ (v323 : Value).ownBlock ∧ some k_ ≠ ((.slice Ao17 t312.length co17) : Value).ownBlock ∧ some k_ ≠ ((.slice Ao17 t312.length co17) : Value).ownBlock) (.slice Ao20 t316.length co20) t316) ∧ Aside0 (w'.heap[gb320]? = some (.cells #[(.slice Ao17 t312.length co17), .bool t315] 52 (0, 0))) ∧ Aside0 (w'.heap[gb321]? = some (.cells #[(.slice Ao20 t316.length co20), .bool t319] 52 (0, 0))) ∧ Aside0 (Below w.heap.size w w'))
            case atStart => exact ⟨(y322), (0), (by first | rfl | (simp; done) | (simp [*]; done)), H', ⟨Nat.le_refl _⟩, ⟨by (with_reducible repeat (first | apply Kd.R_alloc | apply Kd.R_drewN | apply Kd.R_drew)); exact Kd.R_mono HO324.out (fun _ hk => ⟨hk.1.2, ⟨hk.1.2, hk.2⟩⟩)⟩, ⟨by (with_reducible repeat (first | apply Kd.R_alloc | apply Kd.R_drewN | apply Kd.R_drew)); exact Kd.R_mono HO314.out (fun _ hk => ⟨hk.2, hk.1.2⟩)⟩, ⟨by (with_reducible repeat (first | apply Kd.R_alloc | apply Kd.R_drewN | apply Kd.R_drew)); exact Kd.R_mono HO314.out (fun _ hk => ⟨hk.2, hk.1.2⟩)⟩, ⟨by (with_reducible repeat (first | apply Kd.R_alloc | apply Kd.R_drewN | apply Kd.R_drew)); exact Kd.R_mono HO318.out (fun _ hk => ⟨hk.2, ⟨hk.1.2, hk.1.2⟩⟩)⟩, ⟨by (with_reducible repeat (first | refine blk_drewN ?_ _ | refine blk_drew ?_ | refine blk_alloc ?_ _)); exact BK320.out⟩, ⟨by (with_reducible repeat (first | refine blk_drewN ?_ _ | refine blk_drew ?_ | refine blk_alloc ?_ _)); exact BK321.out⟩, ⟨by repeat (first | (with_reducible first | exact HB.out | apply below_alloc | apply pw_below_drewN | apply below_drew1 | refine below_set ?_ GE320.out | refine below_set ?_ GE321.out) | exact HB.out)⟩⟩
            case round =>
              clear H'
              try clear c1
              try clear c2
              try clear p2
              try clear c3
              try clear c5
              try clear p6
              try clear c7
              try clear c11
              try clear c11b0
              try clear c11b1
              try clear c12
              try clear c12b0
              try clear c12b1
              try clear c13
              try clear c18
              try clear c20
              try clear hcz19_0
              try clear hcz19_1
              try clear hcz21_0
              try clear hcz21_1
              try clear hcz24_0
              try clear hcz24_1
              try clear hfz19_0
              try clear hfz19_1
              try clear hfz21_0
              try clear hfz21_1
              try clear hfz24_0
              try clear hfz24_1
              try clear p2
              obtain ⟨x8_2, x38_2, rfl, HA, HK2, HO_8, HO_36, HO_321000, HO_322000, BK320, BK321, HB⟩ := hrel
              cases gk with
              | zero => exact absurd HA.out (by simp [rostrumref09_Mul.l0])
              | succ k2 =>
                have H := HA.out
                clear HA
                simp only [rostrumref09_Mul.l0] at H
                by_cases c25 : x38_2 < (t312.length : Int)
                · rw [if_pos c25] at H
                  have c25b0 : decide (x38_2 < (t312.length : Int)) = true := decide_eq_true c25
                  clear c25
                  by_cases c26 : 0 ≤ x38_2
                  · rw [if_pos c26] at H
                    have c26b0 : decide (0 ≤ x38_2) = true := decide_eq_true c26
                    clear c26
                    by_cases c27 : x38_2 < (t312.length : Int)
                    · rw [if_pos c27] at H
                      have c27b0 : decide (x38_2 < (t312.length : Int)) = true := decide_eq_true c27
                      clear c27
                      have H' := Aside0.mk H
                      clear H
                      have p327 : 0 ≤ (x38_2 : Int) := of_decide_eq_true (by first | (with_reducible assumption) | assumption)
                      have q327 : x38_2 < (t312.length : Int) := of_decide_eq_true (by first | (with_reducible assumption) | assumption)
                      obtain ⟨ad327, e327, hx327_0⟩ := Kd.at_int (Kd.R_reads' HO_36.out).2.2 x38_2 p327 q327
                      cases e327
                      replace p327 := eq_true p327
                      replace q327 := eq_true q327
                      have hnb28 := NB321_320.out
                      have hnc28 := NB320_321.out
                      have hcz29_0 : wr.cell? ⟨gb321, 0, none⟩ = some (.slice Ao20 t316.length co20) := (blk_cell BK321.out 0).trans rfl
                      have hcz29_1 : wr.cell? ⟨gb321, 1, none⟩ = some (.bool t319) := (blk_cell BK321.out 1).trans rfl
                      have hfz29_0 := blk_frozen BK321.out 0
                      have hfz29_1 := blk_frozen BK321.out 1
                      go_wp2
                      go_loopg [46] k2 (fun kq v46 w' => ∃ (x8_3 : List Int) (x46_3 : Int), v46 = .int .i64 x46_3 ∧ Aside0 (rostrumref09_Mul.l1 kq x8_3 x38_2 (rd t312 x38_2) t312 (t312.length : Int) x38_2 t316 (t316.length : Int) x46_3 t312 t315 t316 t319 = some (r1, r2)) ∧ Aside0 (kq ≤ k2) ∧ Aside0 (Kd.R (Kd.int .i64) 3 w' w.heap.size (fun k_ => some k_ ≠ ((.slice (some ad327) t312.length co17) : Value).ownBlock ∧ some k_ ≠ ((.slice Ao20 t316.length co20) : Value).ownBlock ∧ some k_ ≠ ((.slice (some ad327) t312.length co17) : Value).ownBlock ∧ some k_ ≠ ((.slice Ao20 t316.length co20) : Value).ownBlock) v323 x8_3) ∧ Aside0 (Kd.R (Kd.int .i64) 3 w' w.heap.size (fun k_ => some k_ ≠ (v323 : Value).ownBlock ∧ some k_ ≠ ((.slice Ao20 t316.length co20) : Value).ownBlock ∧ some k_ ≠ ((.slice Ao20 t316.length co20) : Value).ownBlock) (.slice (some ad327) t312.length co17) t312) ∧ Aside0 (Kd.R (Kd.int .i64) 3 w' w.heap.size (fun k_ => some k_ ≠ (v323 : Value).ownBlock ∧ some k_ ≠ ((.slice (some ad327) t312.length co17) : Value).ownBlock ∧ some k_ ≠ ((.slice (some ad327) t312.length co17) : Value).ownBlock) (.slice Ao20 t316.length co20) t316) ∧ Aside0 (Kd.R (Kd.int .i64) 3 w' w.heap.size (fun k_ => some k_ ≠ (v323 : Value).ownBlock ∧ some k_ ≠ ((.slice Ao20 t316.length co20) : Value).ownBlock ∧ some k_ ≠ ((.slice Ao20 t316.length co20) : Value).ownBlock) (.slice (some ad327) t312.length co17) t312) ∧ Aside0 (Kd.R (Kd.int .i64) 3 w' w.heap.size (fun k_ => some k_ ≠ (v323 : Value).ownBlock ∧ some k_ ≠ ((.slice (some ad327) t312.length co17) : Value).ownBlock ∧ some k_ ≠ ((.slice (some ad327) t312.length co17) : Value).ownBlock) (.slice Ao20 t316.length co20) t316) ∧ Aside0 (w'.heap[gb320]? = some (.cells #[(.slice (some ad327) t312.length co17), .bool t315] 52 (0, 0))) ∧ Aside0 (w'.heap[gb321]? = some (.cells #[(.slice Ao20 t316.length co20), .bool t319] 52 (0, 0))) ∧ Aside0 (Below w.heap.size w w'))
                      case atStart => exact ⟨(x8_2), (0), (by first | rfl | (simp; done) | (simp [*]; done)), H', ⟨Nat.le_refl _⟩, ⟨by (with_reducible repeat (first | apply Kd.R_alloc | apply Kd.R_drewN | apply Kd.R_drew)); exact Kd.R_mono HO_8.out (fun _ hk => ⟨hk.1, ⟨hk.2.2, ⟨hk.2.1, hk.2.2⟩⟩⟩)⟩, ⟨by (with_reducible repeat (first | apply Kd.R_alloc | apply Kd.R_drewN | apply Kd.R_drew)); exact Kd.R_mono HO_36.out (fun _ hk => ⟨hk.1, ⟨hk.2, hk.2⟩⟩)⟩, ⟨by (with_reducible repeat (first | apply Kd.R_alloc | apply Kd.R_drewN | apply Kd.R_drew)); exact HO_322000.out⟩, ⟨by (with_reducible repeat (first | apply Kd.R_alloc | apply Kd.R_drewN | apply Kd.R_drew)); exact Kd.R_mono HO_321000.out (fun _ hk => ⟨hk.1, ⟨hk.2, hk.2⟩⟩)⟩, ⟨by (with_reducible repeat (first | apply Kd.R_alloc | apply Kd.R_drewN | apply Kd.R_drew)); exact HO_322000.out⟩, ⟨by (with_reducible repeat (first | refine blk_drewN ?_ _ | refine blk_drew ?_ | refine blk_alloc ?_ _)); exact BK320.out⟩, ⟨by (with_reducible repeat (first | refine blk_drewN ?_ _ | refine blk_drew ?_ | refine blk_alloc ?_ _)); exact BK321.out⟩, ⟨by repeat (first | (with_reducible first | exact HB.out | apply below_alloc | apply pw_below_drewN | apply below_drew1 | refine below_set ?_ GE320.out | refine below_set ?_ GE321.out) | exact HB.out)⟩⟩
                      case round =>
                        clear H'
                        try clear c1
                        try clear c2
                        try clear p2
                        try clear c3
                        try clear p3
                        try clear q3
                        try clear hx3
                        try clear c5
                        try clear p6
                        try clear c7
                        try clear c11
                        try clear c11b0
                        try clear c11b1
                        try clear c12
                        try clear c12b0
                        try clear c12b1
                        try clear c13
                        try clear c18
                        try clear c20
                        try clear c25
                        try clear c25b0
                        try clear c26
                        try clear c26b0
                        try clear c27
                        try clear c27b0
                        try clear c28
                        try clear hcz19_0
                        try clear hcz19_1
                        try clear hcz21_0
                        try clear hcz21_1
                        try clear hcz24_0
                        try clear hcz24_1
                        try clear hcz29_0
                        try clear hcz29_1
                        try clear hfz19_0
                        try clear hfz19_1
                        try clear hfz21_0
                        try clear hfz21_1
                        try clear hfz24_0
                        try clear hfz24_1
                        try clear hfz29_0
                        try clear hfz29_1
                        try clear hx327_0
                        try clear p2
                        try clear p327
                        try clear p6
                        try clear q327
                        obtain ⟨x8_3, x46_3, rfl, HA, HK3, HO_8, HO_36, HO_44, HO_321000, HO_322000, BK320, BK321, HB⟩ := hrel
                        cases gk with
                        | zero => exact absurd HA.out (by simp [rostrumref09_Mul.l1])
                        | succ k3 =>
                          have H := HA.out
                          clear HA
                          simp only [rostrumref09_Mul.l1] at H
                          by_cases c30 : x46_3 < (t316.length : Int)
                          · rw [if_pos c30] at H
                            have c30b0 : decide (x46_3 < (t316.length : Int)) = true := decide_eq_true c30
                            clear c30
                            by_cases c31 : 0 ≤ x46_3
                            · rw [if_pos c31] at H
                              have c31b0 : decide (0 ≤ x46_3) = true := decide_eq_true c31
                              clear c31
                              by_cases c32 : x46_3 < (t316.length : Int)
                              · rw [if_pos c32] at H
                                have c32b0 : decide (x46_3 < (t316.length : Int)) = true := decide_eq_true c32
                                clear c32
                                obtain ⟨ji33, hji33⟩ : ∃ j_ : Int, (wrap64 (x38_2 + x46_3)) = j_ := ⟨_, rfl⟩
                                replace H : (if 0 ≤ (ji33) then (if (ji33) < (x8_3.length : Int) then (rostrumref09_Mul.l1 k3 (x8_3.set ((ji33) : Int).toNat (wrap64 ((rd x8_3 (ji33)) + (wrap64 ((rd t312 x38_2) * (rd t316 x46_3)))))) x38_2 (rd t312 x38_2) t312 (t312.length : Int) x38_2 t316 (t316.length : Int) (wrap64 (x46_3 + 1)) t312 t315 t316 t319) else (none)) else (none)) = some (r1, r2) := by first | (rw [hji33] at H; exact H) | (simp only [hji33] at H ⊢; exact H)
                                have hji33w : (IntKind.i64.wrap (x38_2 + x46_3)) = ji33 := (i64_w _).trans hji33
                                by_cases c34 : 0 ≤ (ji33)
                                · rw [if_pos c34] at H
                                  have c34b0 : decide (0 ≤ (ji33)) = true := decide_eq_true c34
                                  clear c34
                                  by_cases c35 : (ji33) < (x8_3.length : Int)
                                  · rw [if_pos c35] at H
                                    have c35b0 : decide ((ji33) < (x8_3.length : Int)) = true := decide_eq_true c35
                                    clear c35
                                    obtain ⟨y330, hy330⟩ : ∃ y_ : List Int, y_ = (x8_3.set ((ji33) : Int).toNat (wrap64 ((rd x8_3 (ji33)) + (wrap64 ((rd t312 x38_2) * (rd t316 x46_3)))))) := ⟨_, rfl⟩
                                    replace H : (rostrumref09_Mul.l1 k3 y330 x38_2 (rd t312 x38_2) t312 (t312.length : Int) x38_2 t316 (t316.length : Int) (wrap64 (x46_3 + 1)) t312 t315 t316 t319) = some (r1, r2) := by first | (rw [hy330]; with_reducible exact H) | (have H2_ := (Option.bind_some _ _).symm.trans H; rw [hy330]; with_reducible exact H2_) | (have H2_ := (Option.bind_some _ _).symm.trans H; with_reducible exact H2_) | with_reducible exact H | (rw [hy330]; exact H) | exact H
                                    have Ny330 := Aside0.mk hy330
                                    clear hy330
                                    have H' := Aside0.mk H
                                    clear H
                                    have p328 : 0 ≤ (x46_3 : Int) := of_decide_eq_true (by first | (with_reducible assumption) | assumption)
                                    have q328 : x46_3 < (t316.length : Int) := of_decide_eq_true (by first | (with_reducible assumption) | assumption)
                                    obtain ⟨ad328, e328, hx328_0⟩ := Kd.at_int (Kd.R_reads' HO_44.out).2.2 x46_3 p328 q328
                                    cases e328
                                    replace p328 := eq_true p328
                                    replace q328 := eq_true q328
                                    obtain ⟨Ao37, co37, eo37⟩ := Kd.R_slice HO_8.out
                                    subst eo37
                                    have p329 : 0 ≤ ((ji33) : Int) := of_decide_eq_true (by first | (with_reducible assumption) | assumption)
                                    have q329 : (ji33) < (x8_3.length : Int) := of_decide_eq_true (by first | (with_reducible assumption) | assumption)
                                    obtain ⟨ad329, e329, hx329_0⟩ := Kd.at_int (Kd.R_reads' HO_8.out).2.2 (ji33) p329 q329
                                    cases e329
                                    replace p329 := eq_true p329
                                    replace q329 := eq_true q329
                                    have p36 : 0 ≤ ((ji33) : Int) := of_decide_eq_true (by first | (with_reducible assumption) | assumption)
                                    have q36 : ((ji33) : Int) < ((x8_3.length : Int) : Int) := of_decide_eq_true (by first | (with_reducible assumption) | assumption)
                                    obtain ⟨go36, co36, eo36, gb36, gl36, cl36, HG36⟩ := Kd.R_form HO_8.out (by omega)
                                    (first | cases eo36 | (injection eo36 with ea_ en_ ec_; (first | subst ea_ | (injection ea_ with ea_; subst ea_)); subst ec_; clear en_))
                                    have GB36 := Aside0.mk gb36
                                    have GG36 := Aside0.mk HG36
                                    clear gb36 gl36 HG36
                                    (first | simp only [add_plain] at hx329_0 | skip)
                                    obtain ⟨hx36_0, hf36_0⟩ := Kd.R_celln 0 HO_8.out ((ji33) : Int) p36 q36
                                    replace p36 := eq_true p36
                                    replace q36 := eq_true q36
                                    have HP38 := Kd.R_putg HO_8.out ((ji33) : Int) (wrap64 ((rd x8_3 (ji33)) + (wrap64 ((rd t312 x38_2) * (rd t316 x46_3)))))
                                    go_wp2_with (first | ((with_reducible refine gate_store (t := 3) (p := 61) rfl ?_); refine store_event (t := 3) (p := 61) (v := ?vo_w39) (w1 := (wr.setCell ⟨go36, ((ji33) : Int).toNat, none⟩ (.int .i64 (wrap64 ((rd x8_3 (ji33)) + (wrap64 ((rd t312 x38_2) * (rd t316 x46_3)))))))) ?hg ?ho ?hn ?hr ?_; (case ho => rfl); (case hg => rfl); (case hn => rfl); (case hr => first | (go_simp; done) | (go_simp; rfl)); intro w39 hw; have hg : wr.grownBy w39 (some go36) := (by rw [hw]; exact HP38.2); have hp_ : Kd.R (Kd.int .i64) 3 w39 w.heap.size (fun k_ => some k_ ≠ (.slice (some ad327) t312.length co17 : Value).ownBlock ∧ some k_ ≠ (.slice (some ad328) t316.length co20 : Value).ownBlock ∧ some k_ ≠ (.slice (some ad327) t312.length co17 : Value).ownBlock ∧ some k_ ≠ (.slice (some ad328) t316.length co20 : Value).ownBlock) (.slice (some ⟨go36, 0, none⟩) x8_3.length co37) y330 := (by rw [hw, Ny330.out]; exact HP38.1); clear HP38; have n0_ := Aside0.mk (hp_); have n1_ := Aside0.mk (Kd.R_after (v := (.slice (some ⟨go36, 0, none⟩) x8_3.length co37)) (v1 := (.slice (some ⟨go36, 0, none⟩) x8_3.length co37)) (ok := (fun k_ => some k_ ≠ (.slice (some ad328) t316.length co20 : Value).ownBlock ∧ some k_ ≠ (.slice (some ad328) t316.length co20 : Value).ownBlock)) (by (with_reducible repeat (first | apply Kd.R_alloc | apply Kd.R_drewN | apply Kd.R_drew)); exact Kd.R_mono HO_36.out (fun _ hk => ⟨⟨hk.2.1, hk.2.2⟩, hk.1⟩)) hg (.inl rfl)); have n2_ := Aside0.mk (Kd.R_after (v := (.slice (some ⟨go36, 0, none⟩) x8_3.length co37)) (v1 := (.slice (some ⟨go36, 0, none⟩) x8_3.length co37)) (ok := (fun k_ => some k_ ≠ (.slice (some ad327) t312.length co17 : Value).ownBlock ∧ some k_ ≠ (.slice (some ad327) t312.length co17 : Value).ownBlock)) (by (with_reducible repeat (first | apply Kd.R_alloc | apply Kd.R_drewN | apply Kd.R_drew)); exact Kd.R_mono HO_44.out (fun _ hk => ⟨⟨hk.2.1, hk.2.2⟩, hk.1⟩)) hg (.inl rfl)); have n3_ := Aside0.mk (Kd.R_after (v := (.slice (some ⟨go36, 0, none⟩) x8_3.length co37)) (v1 := (.slice (some ⟨go36, 0, none⟩) x8_3.length co37)) (ok := (fun k_ => some k_ ≠ (.slice (some ad328) t316.length co20 : Value).ownBlock ∧ some k_ ≠ (.slice (some ad328) t316.length co20 : Value).ownBlock)) (by (with_reducible repeat (first | apply Kd.R_alloc | apply Kd.R_drewN | apply Kd.R_drew)); exact Kd.R_mono HO_321000.out (fun _ hk => ⟨⟨hk.2.1, hk.2.2⟩, hk.1⟩)) hg (.inl rfl)); have n4_ := Aside0.mk (Kd.R_after (v := (.slice (some ⟨go36, 0, none⟩) x8_3.length co37)) (v1 := (.slice (some ⟨go36, 0, none⟩) x8_3.length co37)) (ok := (fun k_ => some k_ ≠ (.slice (some ad327) t312.length co17 : Value).ownBlock ∧ some k_ ≠ (.slice (some ad327) t312.length co17 : Value).ownBlock)) (by (with_reducible repeat (first | apply Kd.R_alloc | apply Kd.R_drewN | apply Kd.R_drew)); exact Kd.R_mono HO_322000.out (fun _ hk => ⟨⟨hk.2.1, hk.2.2⟩, hk.1⟩)) hg (.inl rfl)); have n5_ := Aside0.mk (blk_grown (g := gb320) (o := .cells #[.slice (some ad327) t312.length co17, .bool t315] 52 (0, 0)) (by (with_reducible repeat (first | refine blk_drewN ?_ _ | refine blk_drew ?_ | refine blk_alloc ?_ _)); exact BK320.out) hg (Kd.R_ne HO_8.out BK320.out (by decide))); have n6_ := Aside0.mk (blk_grown (g := gb321) (o := .cells #[.slice (some ad328) t316.length co20, .bool t319] 52 (0, 0)) (by (with_reducible repeat (first | refine blk_drewN ?_ _ | refine blk_drew ?_ | refine blk_alloc ?_ _)); exact BK321.out) hg (Kd.R_ne HO_8.out BK321.out (by decide))); have n7_ := Aside0.mk ((by rw [hw]; exact below_set (HB.out) GB36.out : Below w.heap.size w w39)); clear HO_8; clear HO_36; clear HO_44; clear HO_321000; clear HO_322000; clear BK320; clear BK321; clear HB; have HO_8 := n0_; have HO_36 := n1_; have HO_44 := n2_; have HO_321000 := n3_; have HO_322000 := n4_; have BK320 := n5_; have BK321 := n6_; have HB := n7_; clear n0_ n1_ n2_ n3_ n4_ n5_ n6_ n7_; clear hg hw hp_))
                                    go_roundg k3
                                    case measure => have := HJ2.out; have := HK2.out; have := HK3.out; omega
                                    case rel => exact ⟨(y330), (wrap64 (x46_3 + 1)), (by first | rfl | (simp; done) | (simp [*]; done)), H', ⟨by have := HJ2.out; have := HK2.out; have := HK3.out; omega⟩, ⟨by (with_reducible repeat (first | apply Kd.R_alloc | apply Kd.R_drewN | apply Kd.R_drew)); exact HO_8.out⟩, ⟨by (with_reducible repeat (first | apply Kd.R_alloc | apply Kd.R_drewN | apply Kd.R_drew)); exact Kd.R_mono HO_36.out (fun _ hk => ⟨hk.2, ⟨hk.1.1, hk.1.2⟩⟩)⟩, ⟨by (with_reducible repeat (first | apply Kd.R_alloc | apply Kd.R_drewN | apply Kd.R_drew)); exact Kd.R_mono HO_44.out (fun _ hk => ⟨hk.2, ⟨hk.1.1, hk.1.2⟩⟩)⟩, ⟨by (with_reducible repeat (first | apply Kd.R_alloc | apply Kd.R_drewN | apply Kd.R_drew)); exact Kd.R_mono HO_321000.out (fun _ hk => ⟨hk.2, ⟨hk.1.1, hk.1.2⟩⟩)⟩, ⟨by (with_reducible repeat (first | apply Kd.R_alloc | apply Kd.R_drewN | apply Kd.R_drew)); exact Kd.R_mono HO_322000.out (fun _ hk => ⟨hk.2, ⟨hk.1.1, hk.1.2⟩⟩)⟩, ⟨by (with_reducible repeat (first | refine blk_drewN ?_ _ | refine blk_drew ?_ | refine blk_alloc ?_ _)); exact BK320.out⟩, ⟨by (with_reducible repeat (first | refine blk_drewN ?_ _ | refine blk_drew ?_ | refine blk_alloc ?_ _)); exact BK321.out⟩, ⟨by repeat (first | (with_reducible first | exact HB.out | apply below_alloc | apply pw_below_drewN | apply below_drew1 | refine below_set ?_ GE320.out | refine below_set ?_ GE321.out) | exact HB.out)⟩⟩
                                  · rw [if_neg c35] at H
                                    exact absurd H (by simp)
                                · rw [if_neg c34] at H
                                  exact absurd H (by simp)
                              · rw [if_neg c32] at H
                                exact absurd H (by simp)
                            · rw [if_neg c31] at H
                              exact absurd H (by simp)
                          · rw [if_neg c30] at H
                            have c30b0 : decide (x46_3 < (t316.length : Int)) = false := decide_eq_false c30
                            clear c30
                            have H' := Aside0.mk H
                            clear H
                            obtain ⟨Ao40, co40, eo40⟩ := Kd.R_slice HO_8.out
                            subst eo40
                            go_wp2
                            go_loopg [66] k3 (fun kq v66 w' => ∃ (x8_4 : List Int) (x66_4 : Int), v66 = .int .i64 x66_4 ∧ Aside0 (rostrumref09_Mul.l2 kq x8_4 t312 (t312.length : Int) x38_2 (wrap64 ((x8_3.length : Int) - 1)) x66_4 t312 t315 t316 t319 = some (r1, r2)) ∧ Aside0 (kq ≤ k3) ∧ Aside0 (Kd.R (Kd.int .i64) 3 w' w.heap.size (fun k_ => some k_ ≠ ((.slice (some ad327) t312.length co17) : Value).ownBlock ∧ some k_ ≠ ((.slice (some ad327) t312.length co17) : Value).ownBlock ∧ some k_ ≠ ((.slice Ao20 t316.length co20) : Value).ownBlock) (.slice Ao40 x8_3.length co40) x8_4) ∧ Aside0 (Kd.R (Kd.int .i64) 3 w' w.heap.size (fun k_ => some k_ ≠ ((.slice Ao40 x8_3.length co40) : Value).ownBlock ∧ some k_ ≠ ((.slice Ao20 t316.length co20) : Value).ownBlock) (.slice (some ad327) t312.length co17) t312) ∧ Aside0 (Kd.R (Kd.int .i64) 3 w' w.heap.size (fun k_ => some k_ ≠ ((.slice Ao40 x8_3.length co40) : Value).ownBlock ∧ some k_ ≠ ((.slice Ao20 t316.length co20) : Value).ownBlock) (.slice (some ad327) t312.length co17) t312) ∧ Aside0 (Kd.R (Kd.int .i64) 3 w' w.heap.size (fun k_ => some k_ ≠ ((.slice Ao40 x8_3.length co40) : Value).ownBlock ∧ some k_ ≠ ((.slice (some ad327) t312.length co17) : Value).ownBlock ∧ some k_ ≠ ((.slice (some ad327) t312.length co17) : Value).ownBlock) (.slice Ao20 t316.length co20) t316) ∧ Aside0 (w'.heap[gb320]? = some (.cells #[(.slice (some ad327) t312.length co17), .bool t315] 52 (0, 0))) ∧ Aside0 (w'.heap[gb321]? = some (.cells #[(.slice Ao20 t316.length co20), .bool t319] 52 (0, 0))) ∧ Aside0 (Below w.heap.size w w'))
                            case atStart => exact ⟨(x8_3), (0), (by first | rfl | (simp; done) | (simp [*]; done)), H', ⟨Nat.le_refl _⟩, ⟨by (with_reducible repeat (first | apply Kd.R_alloc | apply Kd.R_drewN | apply Kd.R_drew)); exact Kd.R_mono HO_8.out (fun _ hk => ⟨hk.1, ⟨hk.2.2.1, hk.2.2.2⟩⟩)⟩, ⟨by (with_reducible repeat (first | apply Kd.R_alloc | apply Kd.R_drewN | apply Kd.R_drew)); exact Kd.R_mono HO_36.out (fun _ hk => ⟨hk.1, hk.2.2⟩)⟩, ⟨by (with_reducible repeat (first | apply Kd.R_alloc | apply Kd.R_drewN | apply Kd.R_drew)); exact Kd.R_mono HO_321000.out (fun _ hk => ⟨hk.1, hk.2.2⟩)⟩, ⟨by (with_reducible repeat (first | apply Kd.R_alloc | apply Kd.R_drewN | apply Kd.R_drew)); exact HO_322000.out⟩, ⟨by (with_reducible repeat (first | refine blk_drewN ?_ _ | refine blk_drew ?_ | refine blk_alloc ?_ _)); exact BK320.out⟩, ⟨by (with_reducible repeat (first | refine blk_drewN ?_ _ | refine blk_drew ?_ | refine blk_alloc ?_ _)); exact BK321.out⟩, ⟨by repeat (first | (with_reducible first | exact HB.out | apply below_alloc | apply pw_below_drewN | apply below_drew1 | refine below_set ?_ GE320.out | refine below_set ?_ GE321.out) | exact HB.out)⟩⟩
                            case round =>
                              clear H'
                              try clear c1
                              try clear c2
                              try clear p2
                              try clear c3
                              try clear p3
                              try clear q3
                              try clear hx3
                              try clear hf3
                              try clear c5
                              try clear p6
                              try clear c7
                              try clear c11
                              try clear c11b0
                              try clear c11b1
                              try clear c12
                              try clear c12b0
                              try clear c12b1
                              try clear c13
                              try clear c18
                              try clear c20
                              try clear c25
                              try clear c25b0
                              try clear c26
                              try clear c26b0
                              try clear c27
                              try clear c27b0
                              try clear c28
                              try clear c30
                              try clear c30b0
                              try clear c31
                              try clear c31b0
                              try clear c32
                              try clear c32b0
                              try clear p32
                              try clear q32
                              try clear hx32
                              try clear c34
                              try clear c34b0
                              try clear c35
                              try clear c35b0
                              try clear p36
                              try clear q36
                              try clear hx36
                              try clear hf36
                              try clear c37
                              try clear hcz19_0
                              try clear hcz19_1
                              try clear hcz21_0
                              try clear hcz21_1
                              try clear hcz24_0
                              try clear hcz24_1
                              try clear hcz29_0
                              try clear hcz29_1
                              try clear hfz19_0
                              try clear hfz19_1
                              try clear hfz21_0
                              try clear hfz21_1
                              try clear hfz24_0
                              try clear hfz24_1
                              try clear hfz29_0
                              try clear hfz29_1
                              try clear hx327_0
                              try clear hx328_0
                              try clear hx329_0
                              try clear hx36_0
                              try clear p2
                              try clear p3
                              try clear p327
                              try clear p328
                              try clear p329
                              try clear p36
                              try clear p6
                              try clear q3
                              try clear q327
                              try clear q328
                              try clear q329
                              try clear q36
                              obtain ⟨x8_4, x66_4, rfl, HA, HK4, HO_8, HO_36, HO_321000, HO_322000, BK320, BK321, HB⟩ := hrel
                              have hl8_4 := (Kd.R_reads' HO_8.out).1
                              rw [hl8_4] at HO_8
                              (try simp only [hl8_4])
                              (try simp only [hl8_4] at BK320)
                              (try simp only [hl8_4] at BK321)
                              (try simp only [hl8_4] at HO_36)
                              (try simp only [hl8_4] at HO_321000)
                              (try simp only [hl8_4] at HO_322000)
                              cases gk with
                              | zero => exact absurd HA.out (by simp [rostrumref09_Mul.l2])
                              | succ k4 =>
                                have H := HA.out
                                clear HA
                                simp only [rostrumref09_Mul.l2] at H
                                by_cases c41 : x66_4 < (wrap64 ((x8_3.length : Int) - 1))
                                · rw [if_pos c41] at H
                                  have c41b0 : decide (x66_4 < (wrap64 ((x8_3.length : Int) - 1))) = true := decide_eq_true c41
                                  try (have c41bx := c41b0; rw [hl8_4] at c41bx)
                                  clear c41
                                  obtain ⟨ji42, hji42⟩ : ∃ j_ : Int, (wrap64 (x66_4 + 1)) = j_ := ⟨_, rfl⟩
                                  replace H : (if 0 ≤ (ji42) then (if (ji42) < (x8_4.length : Int) then (if 0 ≤ x66_4 then (if x66_4 < (x8_4.length : Int) then ((some (x8_4.set ((ji42) : Int).toNat (wrap64 ((rd x8_4 (ji42)) + (wrap64 (Int.tdiv (rd x8_4 x66_4) 10)))) : List Int)).bind fun y333 => (rostrumref09_Mul.l2 k4 (y333.set (x66_4 : Int).toNat (Int.tmod (rd y333 x66_4) 10)) t312 (t312.length : Int) x38_2 (wrap64 ((x8_3.length : Int) - 1)) ji42 t312 t315 t316 t319)) else (none)) else (none)) else (none)) else (none)) = some (r1, r2) := by first | (rw [hji42] at H; exact H) | (simp only [hji42] at H ⊢; exact H)
                                  have hji42w : (IntKind.i64.wrap (x66_4 + 1)) = ji42 := (i64_w _).trans hji42
                                  by_cases c43 : 0 ≤ (ji42)
                                  · rw [if_pos c43] at H
                                    have c43b0 : decide (0 ≤ (ji42)) = true := decide_eq_true c43
                                    clear c43
                                    by_cases c44 : (ji42) < (x8_4.length : Int)
                                    · rw [if_pos c44] at H
                                      have c44b0 : decide ((ji42) < (x8_4.length : Int)) = true := decide_eq_true c44
                                      clear c44
                                      by_cases c45 : 0 ≤ x66_4
                                      · rw [if_pos c45] at H
                                        have c45b0 : decide (0 ≤ x66_4) = true := decide_eq_true c45
                                        clear c45
                                        by_cases c46 : x66_4 < (x8_4.length : Int)
                                        · rw [if_pos c46] at H
                                          have c46b0 : decide (x66_4 < (x8_4.length : Int)) = true := decide_eq_true c46
                                          clear c46
                                          obtain ⟨y333, hy333⟩ : ∃ y_ : List Int, y_ = (x8_4.set ((ji42) : Int).toNat (wrap64 ((rd x8_4 (ji42)) + (wrap64 (Int.tdiv (rd x8_4 x66_4) 10))))) := ⟨_, rfl⟩
                                          replace H : (rostrumref09_Mul.l2 k4 (y333.set (x66_4 : Int).toNat (Int.tmod (rd y333 x66_4) 10)) t312 (t312.length : Int) x38_2 (wrap64 ((x8_3.length : Int) - 1)) ji42 t312 t315 t316 t319) = some (r1, r2) := by first | (rw [hy333]; with_reducible exact H) | (have H2_ := (Option.bind_some _ _).symm.trans H; rw [hy333]; with_reducible exact H2_) | (have H2_ := (Option.bind_some _ _).symm.trans H; with_reducible exact H2_) | with_reducible exact H | (rw [hy333]; exact H) | exact H
                                          have Ny333 := Aside0.mk hy333
                                          clear hy333
                                          obtain ⟨y335, hy335⟩ : ∃ y_ : List Int, y_ = (y333.set (x66_4 : Int).toNat (Int.tmod (rd y333 x66_4) 10)) := ⟨_, rfl⟩
                                          replace H : (rostrumref09_Mul.l2 k4 y335 t312 (t312.length : Int) x38_2 (wrap64 ((x8_3.length : Int) - 1)) ji42 t312 t315 t316 t319) = some (r1, r2) := by first | (rw [hy335]; with_reducible exact H) | (have H2_ := (Option.bind_some _ _).symm.trans H; rw [hy335]; with_reducible exact H2_) | (have H2_ := (Option.bind_some _ _).symm.trans H; with_reducible exact H2_) | with_reducible exact H | (rw [hy335]; exact H) | exact H
                                          have Ny335 := Aside0.mk hy335
                                          clear hy335
                                          have H' := Aside0.mk H
                                          clear H
                                          try go_wp2
                                          have n0_ := Aside0.mk (Kd.R_drew HO_8.out)
                                          have n1_ := Aside0.mk (Kd.R_drew HO_36.out)
                                          have n2_ := Aside0.mk (Kd.R_drew HO_321000.out)
                                          have n3_ := Aside0.mk (Kd.R_drew HO_322000.out)
                                          have n4_ := Aside0.mk (blk_drew BK320.out)
                                          have n5_ := Aside0.mk (blk_drew BK321.out)
                                          have n6_ := Aside0.mk (below_drew1 HB.out)
                                          clear HO_8
                                          clear HO_36
                                          clear HO_321000
                                          clear HO_322000
                                          clear BK320
                                          clear BK321
                                          clear HB
                                          have HO_8 := n0_
                                          have HO_36 := n1_
                                          have HO_321000 := n2_
                                          have HO_322000 := n3_
                                          have BK320 := n4_
                                          have BK321 := n5_
                                          have HB := n6_
                                          clear n0_ n1_ n2_ n3_ n4_ n5_ n6_
                                          have p331 : 0 ≤ ((ji42) : Int) := of_decide_eq_true (by first | (with_reducible assumption) | assumption)
                                          have q331 : (ji42) < (x8_4.length : Int) := of_decide_eq_true (by first | (with_reducible assumption) | assumption)
                                          obtain ⟨ad331, e331, hx331_0⟩ := Kd.at_int (Kd.R_reads' HO_8.out).2.2 (ji42) p331 q331
                                          cases e331
                                          replace p331 := eq_true p331
                                          replace q331 := eq_true q331
                                          have p332 : 0 ≤ (x66_4 : Int) := of_decide_eq_true (by first | (with_reducible assumption) | assumption)
                                          have q332 : x66_4 < (x8_4.length : Int) := of_decide_eq_true (by first | (with_reducible assumption) | assumption)
                                          obtain ⟨ad332, e332, hx332_0⟩ := Kd.at_int (Kd.R_reads' HO_8.out).2.2 x66_4 p332 q332
                                          obtain rfl : ad331 = ad332 := (by injection e332)
                                          replace p332 := eq_true p332
                                          replace q332 := eq_true q332
                                          have p47 : 0 ≤ ((ji42) : Int) := of_decide_eq_true (by first | (with_reducible assumption) | assumption)
                                          have q47 : ((ji42) : Int) < ((x8_4.length : Int) : Int) := of_decide_eq_true (by first | (with_reducible assumption) | assumption)
                                          obtain ⟨go47, co47, eo47, gb47, gl47, cl47, HG47⟩ := Kd.R_form HO_8.out (by omega)
                                          (first | cases eo47 | (injection eo47 with ea_ en_ ec_; (first | subst ea_ | (injection ea_ with ea_; subst ea_)); subst ec_; clear en_))
                                          have GB47 := Aside0.mk gb47
                                          have GG47 := Aside0.mk HG47
                                          clear gb47 gl47 HG47
                                          (first | simp only [add_plain] at hx331_0 | skip)
                                          (first | simp only [add_plain] at hx332_0 | skip)
                                          obtain ⟨hx47_0, hf47_0⟩ := Kd.R_celln 0 HO_8.out ((ji42) : Int) p47 q47
                                          replace p47 := eq_true p47
                                          replace q47 := eq_true q47
                                          have HP50 := Kd.R_putn HO_8.out ((ji42) : Int) (wrap64 ((rd x8_4 (ji42)) + (wrap64 (Int.tdiv (rd x8_4 x66_4) 10))))
                                          rw [← Ny333.out] at HP50
                                          have HQ50 := Aside0.mk HP50
                                          clear HP50
                                          refine start_ (n := 13) (S := fun w' => w'.cell? ⟨go47, ((ji42)).toNat, none⟩ = some (.int .i64 (rd x8_4 (ji42))) ∧ w'.cell? ⟨go47, (x66_4).toNat, none⟩ = some (.int .i64 (rd x8_4 x66_4))) (ds := [12]) #[false, false, false, false, false, false, false, false, false, false, false, false, false] (by kernel_rfl) rfl rfl ⟨hx331_0, hx332_0⟩ (fun hHeld => ?_); refine with_tabW rostrumref09_Mul.tab16 rostrumref09_Mul.bits16 (fun HT_ HW_ => ?_)
                                          generalize wr.drew = w49 at HO_8 HO_36 HO_321000 HO_322000 BK320 BK321 HB GG47 HQ50 hf47_0 hx331_0 hx332_0 hx47_0 hHeld ⊢
                                          refine pure_ (i := 0) (N := some 69) (v := ?_) (a' := ?_) #[true, false, false, false, false, false, false, false, false, false, false, false, false] rfl rfl (any_of HT_.out (by kernel_rfl)) (fun _ _ _ h => h) (Or.inl ⟨by rfl, ?_⟩) ?_ ?_
                                          rotate_left
                                          · intro w'
                                            go_simp
                                            with_reducible rfl
                                          rotate_left
                                          · simp only [Act.put, List.setIfInBounds_toArray, List.set_cons_zero, List.set_cons_succ, i64_w, i32_w]
                                            rfl
                                          refine pure_ (i := 1) (N := some 70) (v := ?_) (a' := ?_) #[true, true, false, false, false, false, false, false, false, false, false, false, false] rfl rfl (any_of HT_.out (by kernel_rfl)) (fun _ _ _ h => h) (Or.inl ⟨by rfl, ?_⟩) ?_ ?_
                                          rotate_left
                                          · intro w'
                                            go_simp
                                            with_reducible rfl
                                          rotate_left
                                          · simp only [Act.put, List.setIfInBounds_toArray, List.set_cons_zero, List.set_cons_succ, i64_w, i32_w]
                                            rfl
                                          refine pure_ (i := 2) (N := some 71) (v := ?_) (a' := ?_) #[true, true, true, false, false, false, false, false, false, false, false, false, false] rfl rfl (any_of HT_.out (by kernel_rfl)) (fun _ _ _ h => h) (Or.inl ⟨by rfl, ?_⟩) ?_ ?_
                                          rotate_left
                                          · intro w'
                                            go_simp
                                            with_reducible rfl
                                          rotate_left
                                          · simp only [Act.put, List.setIfInBounds_toArray, List.set_cons_zero, List.set_cons_succ, i64_w, i32_w]
                                            rfl
                                          refine pure_ (i := 3) (N := some 72) (v := ?_) (a' := ?_) #[true, true, true, true, false, false, false, false, false, false, false, false, false] rfl rfl (any_of HT_.out (by kernel_rfl)) (fun _ _ _ h => h) (Or.inl ⟨by rfl, ?_⟩) ?_ ?_
                                          rotate_left
                                          · intro w'
                                            go_simp
                                            with_reducible rfl
                                          rotate_left
                                          · simp only [Act.put, List.setIfInBounds_toArray, List.set_cons_zero, List.set_cons_succ, i64_w, i32_w]
                                            rfl
                                          refine pure_ (i := 5) (N := some 74) (v := ?_) (a' := ?_) #[true, true, true, true, false, true, false, false, false, false, false, false, false] rfl rfl (any_of HT_.out (by kernel_rfl)) (fun _ _ _ h => h) (Or.inl ⟨by rfl, ?_⟩) ?_ ?_
                                          rotate_left
                                          · intro w'
                                            go_simp
                                            with_reducible rfl
                                          rotate_left
                                          · simp only [Act.put, List.setIfInBounds_toArray, List.set_cons_zero, List.set_cons_succ, i64_w, i32_w]
                                            rfl
                                          refine pure_ (i := 6) (N := some 75) (v := ?_) (a' := ?_) #[true, true, true, true, false, true, true, false, false, false, false, false, false] rfl rfl (any_of HT_.out (by kernel_rfl)) (fun _ _ _ h => h) (Or.inl ⟨by rfl, ?_⟩) ?_ ?_
                                          rotate_left
                                          · intro w'
                                            go_simp
                                            with_reducible rfl
                                          rotate_left
                                          · simp only [Act.put, List.setIfInBounds_toArray, List.set_cons_zero, List.set_cons_succ, i64_w, i32_w]
                                            rfl
                                          refine pure_ (i := 7) (N := some 76) (v := ?_) (a' := ?_) #[true, true, true, true, false, true, true, true, false, false, false, false, false] rfl rfl (any_of HT_.out (by kernel_rfl)) (fun _ _ _ h => h) (Or.inl ⟨by rfl, ?_⟩) ?_ ?_
                                          rotate_left
                                          · intro w'
                                            go_simp
                                            with_reducible rfl
                                          rotate_left
                                          · simp only [Act.put, List.setIfInBounds_toArray, List.set_cons_zero, List.set_cons_succ, i64_w, i32_w]
                                            rfl
                                          refine take_ (i := 4) (N := some 73) (v := ?_) (a' := ?_) #[true, true, true, true, true, true, true, true, false, false, false, false, false] rfl rfl (take_ofW HT_.out HW_.out (by kernel_rfl)) (fun _ _ _ h => h) (Or.inl ⟨by rfl, ?_⟩) hHeld ?_ ?_
                                          rotate_left
                                          · rintro w' ⟨s0, s1⟩
                                            go_simp
                                            with_reducible rfl
                                          rotate_left
                                          · simp only [Act.put, List.setIfInBounds_toArray, List.set_cons_zero, List.set_cons_succ, i64_w, i32_w]
                                            rfl
                                          refine take_ (i := 8) (N := some 77) (v := ?_) (a' := ?_) #[true, true, true, true, true, true, true, true, true, false, false, false, false] rfl rfl (take_ofW HT_.out HW_.out (by kernel_rfl)) (fun _ _ _ h => h) (Or.inl ⟨by rfl, ?_⟩) hHeld ?_ ?_
                                          rotate_left
                                          · rintro w' ⟨s0, s1⟩
                                            go_simp
                                            with_reducible rfl
                                          rotate_left
                                          · simp only [Act.put, List.setIfInBounds_toArray, List.set_cons_zero, List.set_cons_succ, i64_w, i32_w]
                                            rfl
                                          refine pure_ (i := 9) (N := some 78) (v := ?_) (a' := ?_) #[true, true, true, true, true, true, true, true, true, true, false, false, false] rfl rfl (any_of HT_.out (by kernel_rfl)) (fun _ _ _ h => h) (Or.inl ⟨by rfl, ?_⟩) ?_ ?_
                                          rotate_left
                                          · intro w'
                                            go_simp
                                            with_reducible rfl
                                          rotate_left
                                          · simp only [Act.put, List.setIfInBounds_toArray, List.set_cons_zero, List.set_cons_succ, i64_w, i32_w]
                                            rfl
                                          refine pure_ (i := 10) (N := some 79) (v := ?_) (a' := ?_) #[true, true, true, true, true, true, true, true, true, true, true, false, false] rfl rfl (any_of HT_.out (by kernel_rfl)) (fun _ _ _ h => h) (Or.inl ⟨by rfl, ?_⟩) ?_ ?_
                                          rotate_left
                                          · intro w'
                                            go_simp
                                            with_reducible rfl
                                          rotate_left
                                          · simp only [Act.put, List.setIfInBounds_toArray, List.set_cons_zero, List.set_cons_succ, i64_w, i32_w]
                                            rfl
                                          refine pure_ (i := 11) (N := some 80) (v := ?_) (a' := ?_) #[true, true, true, true, true, true, true, true, true, true, true, true, false] rfl rfl (any_of HT_.out (by kernel_rfl)) (fun _ _ _ h => h) (Or.inl ⟨by rfl, ?_⟩) ?_ ?_
                                          rotate_left
                                          · intro w'
                                            go_simp
                                            with_reducible rfl
                                          rotate_left
                                          · simp only [Act.put, List.setIfInBounds_toArray, List.set_cons_zero, List.set_cons_succ, i64_w, i32_w]
                                            rfl
                                          refine last_ (i := 12) (N := none) #[true, true, true, true, true, true, true, true, true, true, true, true, true] rfl rfl (one_of HT_.out (by kernel_rfl)) (by decide) (fun K hK => ?_)
                                          refine skip_ (w1 := ?_) (by rfl) rfl ?_ ?_
                                          rotate_left
                                          · go_simp
                                            rfl
                                          refine hK.out _ _ ?_
                                          clear hK K
                                          refine done_ (done_of HT_.out (by kernel_rfl)) ?_
                                          have n0_ : Aside0 (Kd.R (Kd.int .i64) 3 (w49.setCell ⟨go47, ((ji42) : Int).toNat, none⟩ (.int .i64 (wrap64 ((rd x8_4 (ji42)) + (wrap64 (Int.tdiv (rd x8_4 x66_4) 10)))))) w.heap.size (fun k_ => some k_ ≠ (.slice (some ad327) t312.length co17 : Value).ownBlock ∧ some k_ ≠ (.slice (some ad327) t312.length co17 : Value).ownBlock ∧ some k_ ≠ (.slice Ao20 t316.length co20 : Value).ownBlock) (.slice (some ⟨go47, 0, none⟩) x8_4.length co40) y333) := ⟨by (with_reducible repeat (first | apply Kd.R_alloc | apply Kd.R_drewN | apply Kd.R_drew)); exact HQ50.out⟩
                                          have n1_ : Aside0 (Kd.R (Kd.int .i64) 3 (w49.setCell ⟨go47, ((ji42) : Int).toNat, none⟩ (.int .i64 (wrap64 ((rd x8_4 (ji42)) + (wrap64 (Int.tdiv (rd x8_4 x66_4) 10)))))) w.heap.size (fun k_ => some k_ ≠ (.slice (some ⟨go47, 0, none⟩) x8_4.length co40 : Value).ownBlock ∧ some k_ ≠ (.slice Ao20 t316.length co20 : Value).ownBlock) (.slice (some ad327) t312.length co17) t312) := ⟨by (with_reducible repeat (first | apply Kd.R_alloc | apply Kd.R_drewN | apply Kd.R_drew)); exact Kd.R_mono (Kd.R_far (p := ⟨go47, ((ji42) : Int).toNat, none⟩) (Kd.R_mono HO_36.out (fun k_ hk => (⟨hk, fun e_ => hk.1 (by rw [e_]; rfl)⟩ : _ ∧ k_ ≠ go47))) (fun _ hk => hk.2) (.int .i64 (wrap64 ((rd x8_4 (ji42)) + (wrap64 (Int.tdiv (rd x8_4 x66_4) 10)))))) (fun _ hk => ⟨hk.1.1, hk.1.2⟩)⟩
                                          have n2_ : Aside0 (Kd.R (Kd.int .i64) 3 (w49.setCell ⟨go47, ((ji42) : Int).toNat, none⟩ (.int .i64 (wrap64 ((rd x8_4 (ji42)) + (wrap64 (Int.tdiv (rd x8_4 x66_4) 10)))))) w.heap.size (fun k_ => some k_ ≠ (.slice (some ⟨go47, 0, none⟩) x8_4.length co40 : Value).ownBlock ∧ some k_ ≠ (.slice Ao20 t316.length co20 : Value).ownBlock) (.slice (some ad327) t312.length co17) t312) := ⟨by (with_reducible repeat (first | apply Kd.R_alloc | apply Kd.R_drewN | apply Kd.R_drew)); exact Kd.R_mono (Kd.R_far (p := ⟨go47, ((ji42) : Int).toNat, none⟩) (Kd.R_mono HO_321000.out (fun k_ hk => (⟨hk, fun e_ => hk.1 (by rw [e_]; rfl)⟩ : _ ∧ k_ ≠ go47))) (fun _ hk => hk.2) (.int .i64 (wrap64 ((rd x8_4 (ji42)) + (wrap64 (Int.tdiv (rd x8_4 x66_4) 10)))))) (fun _ hk => ⟨hk.1.1, hk.1.2⟩)⟩
                                          have n3_ : Aside0 (Kd.R (Kd.int .i64) 3 (w49.setCell ⟨go47, ((ji42) : Int).toNat, none⟩ (.int .i64 (wrap64 ((rd x8_4 (ji42)) + (wrap64 (Int.tdiv (rd x8_4 x66_4) 10)))))) w.heap.size (fun k_ => some k_ ≠ (.slice (some ⟨go47, 0, none⟩) x8_4.length co40 : Value).ownBlock ∧ some k_ ≠ (.slice (some ad327) t312.length co17 : Value).ownBlock ∧ some k_ ≠ (.slice (some ad327) t312.length co17 : Value).ownBlock) (.slice Ao20 t316.length co20) t316) := ⟨by (with_reducible repeat (first | apply Kd.R_alloc | apply Kd.R_drewN | apply Kd.R_drew)); exact Kd.R_mono (Kd.R_far (p := ⟨go47, ((ji42) : Int).toNat, none⟩) (Kd.R_mono HO_322000.out (fun k_ hk => (⟨hk, fun e_ => hk.1 (by rw [e_]; rfl)⟩ : _ ∧ k_ ≠ go47))) (fun _ hk => hk.2) (.int .i64 (wrap64 ((rd x8_4 (ji42)) + (wrap64 (Int.tdiv (rd x8_4 x66_4) 10)))))) (fun _ hk => ⟨hk.1.1, ⟨hk.1.2.1, hk.1.2.2⟩⟩)⟩
                                          have n4_ : Aside0 ((w49.setCell ⟨go47, ((ji42) : Int).toNat, none⟩ (.int .i64 (wrap64 ((rd x8_4 (ji42)) + (wrap64 (Int.tdiv (rd x8_4 x66_4) 10)))))).heap[gb320]? = some (.cells #[.slice (some ad327) t312.length co17, .bool t315] 52 (0, 0))) := ⟨by (with_reducible repeat (first | refine blk_drewN ?_ _ | refine blk_drew ?_ | refine blk_alloc ?_ _)); refine blk_far ?_ (by have h_ := Kd.R_ne HO_8.out BK320.out (by decide); intro e_; exact h_ (by rw [e_]; rfl)) _; (with_reducible repeat (first | refine blk_drewN ?_ _ | refine blk_drew ?_ | refine blk_alloc ?_ _)); exact BK320.out⟩
                                          have n5_ : Aside0 ((w49.setCell ⟨go47, ((ji42) : Int).toNat, none⟩ (.int .i64 (wrap64 ((rd x8_4 (ji42)) + (wrap64 (Int.tdiv (rd x8_4 x66_4) 10)))))).heap[gb321]? = some (.cells #[.slice Ao20 t316.length co20, .bool t319] 52 (0, 0))) := ⟨by (with_reducible repeat (first | refine blk_drewN ?_ _ | refine blk_drew ?_ | refine blk_alloc ?_ _)); refine blk_far ?_ (by have h_ := Kd.R_ne HO_8.out BK321.out (by decide); intro e_; exact h_ (by rw [e_]; rfl)) _; (with_reducible repeat (first | refine blk_drewN ?_ _ | refine blk_drew ?_ | refine blk_alloc ?_ _)); exact BK321.out⟩
                                          have n6_ : Aside0 (Below w.heap.size w (w49.setCell ⟨go47, ((ji42) : Int).toNat, none⟩ (.int .i64 (wrap64 ((rd x8_4 (ji42)) + (wrap64 (Int.tdiv (rd x8_4 x66_4) 10))))))) := ⟨by repeat (first | (with_reducible first | exact HB.out | apply below_alloc | apply pw_below_drewN | apply below_drew1 | refine below_set ?_ GB47.out | refine below_set ?_ GE320.out | refine below_set ?_ GE321.out) | exact HB.out)⟩
                                          (try clear HO_8)
                                          (try clear HO_36)
                                          (try clear HO_321000)
                                          (try clear HO_322000)
                                          (try clear BK320)
                                          (try clear BK321)
                                          (try clear HB)
                                          generalize (w49.setCell ⟨go47, ((ji42) : Int).toNat, none⟩ (.int .i64 (wrap64 ((rd x8_4 (ji42)) + (wrap64 (Int.tdiv (rd x8_4 x66_4) 10)))))) = w51 at n0_ n1_ n2_ n3_ n4_ n5_ n6_ ⊢
                                          have HO_8 := n0_
                                          have HO_36 := n1_
                                          have HO_321000 := n2_
                                          have HO_322000 := n3_
                                          have BK320 := n4_
                                          have BK321 := n5_
                                          have HB := n6_
                                          clear n0_ n1_ n2_ n3_ n4_ n5_ n6_
                                          have p334 : 0 ≤ (x66_4 : Int) := of_decide_eq_true (by first | (with_reducible assumption) | assumption)
                                          have q334 : x66_4 < (y333.length : Int) := (by have h_ : (x66_4 : Int) < ((x8_4.length : Int) : Int) := of_decide_eq_true (by first | (with_reducible assumption) | assumption); first | (have e_ := (Kd.R_reads' HO_8.out).1; omega) | simpa only [Ny333.out, List.length_set] using h_)
                                          have ql334 : ((x66_4 : Int) < ((x8_4.length : Int) : Int)) = True := eq_true (of_decide_eq_true (by first | (with_reducible assumption) | assumption))
                                          obtain ⟨ad334, e334, hx334_0⟩ := Kd.at_int (Kd.R_reads' HO_8.out).2.2 x66_4 p334 q334
                                          obtain rfl : (⟨go47, 0, none⟩ : Addr) = ad334 := (by injection e334)
                                          (first | simp only [add_plain] at hx334_0 | simp only [add_at] at hx334_0 | simp only [Addr.add, Nat.zero_add] at hx334_0 | skip)
                                          replace p334 := eq_true p334
                                          replace q334 := eq_true q334
                                          have p48 : 0 ≤ (x66_4 : Int) := of_decide_eq_true (by first | (with_reducible assumption) | assumption)
                                          have q48 : (x66_4 : Int) < ((x8_4.length : Int) : Int) := of_decide_eq_true (by first | (with_reducible assumption) | assumption)
                                          obtain ⟨hx48_0, hf48_0⟩ := Kd.R_celln 0 HO_8.out (x66_4 : Int) p48 q48
                                          replace p48 := eq_true p48
                                          replace q48 := eq_true q48
                                          obtain ⟨hy52_, hz52_⟩ := Kd.R_celln 0 HO_8.out (x66_4 : Int) (of_decide_eq_true (by first | (with_reducible assumption) | assumption)) (of_decide_eq_true (by first | (with_reducible assumption) | assumption))
                                          have HP52 := Kd.R_putg HO_8.out (x66_4 : Int) (Int.tmod (rd y333 x66_4) 10)
                                          try go_wp2_with (first | ((with_reducible refine gate_store (t := 3) (p := 88) rfl ?_); refine store_event (t := 3) (p := 88) (v := ?vo_w53) (w1 := (w51.setCell ⟨go47, (x66_4 : Int).toNat, none⟩ (.int .i64 (Int.tmod (rd y333 x66_4) 10)))) ?hg ?ho ?hn ?hr ?_; (case ho => rfl); (case hg => rfl); (case hn => rfl); (case hr => first | (go_simp; done) | (go_simp; rfl)); intro w53 hw; have hg : w51.grownBy w53 (some go47) := (by rw [hw]; exact HP52.2); have hp_ : Kd.R (Kd.int .i64) 3 w53 w.heap.size (fun k_ => some k_ ≠ (.slice (some ad327) t312.length co17 : Value).ownBlock ∧ some k_ ≠ (.slice (some ad327) t312.length co17 : Value).ownBlock ∧ some k_ ≠ (.slice Ao20 t316.length co20 : Value).ownBlock) (.slice (some ⟨go47, 0, none⟩) x8_4.length co40) y335 := (by rw [hw, Ny335.out]; exact HP52.1); clear HP52; have n0_ := Aside0.mk (hp_); have n1_ := Aside0.mk (Kd.R_after (v := (.slice (some ⟨go47, 0, none⟩) x8_4.length co40)) (v1 := (.slice (some ⟨go47, 0, none⟩) x8_4.length co40)) (ok := (fun k_ => some k_ ≠ (.slice Ao20 t316.length co20 : Value).ownBlock)) (by (with_reducible repeat (first | apply Kd.R_alloc | apply Kd.R_drewN | apply Kd.R_drew)); exact Kd.R_mono HO_36.out (fun _ hk => ⟨hk.2, hk.1⟩)) hg (.inl rfl)); have n2_ := Aside0.mk (Kd.R_after (v := (.slice (some ⟨go47, 0, none⟩) x8_4.length co40)) (v1 := (.slice (some ⟨go47, 0, none⟩) x8_4.length co40)) (ok := (fun k_ => some k_ ≠ (.slice Ao20 t316.length co20 : Value).ownBlock)) (by (with_reducible repeat (first | apply Kd.R_alloc | apply Kd.R_drewN | apply Kd.R_drew)); exact Kd.R_mono HO_321000.out (fun _ hk => ⟨hk.2, hk.1⟩)) hg (.inl rfl)); have n3_ := Aside0.mk (Kd.R_after (v := (.slice (some ⟨go47, 0, none⟩) x8_4.length co40)) (v1 := (.slice (some ⟨go47, 0, none⟩) x8_4.length co40)) (ok := (fun k_ => some k_ ≠ (.slice (some ad327) t312.length co17 : Value).ownBlock ∧ some k_ ≠ (.slice (some ad327) t312.length co17 : Value).ownBlock)) (by (with_reducible repeat (first | apply Kd.R_alloc | apply Kd.R_drewN | apply Kd.R_drew)); exact Kd.R_mono HO_322000.out (fun _ hk => ⟨⟨hk.2.1, hk.2.2⟩, hk.1⟩)) hg (.inl rfl)); have n4_ := Aside0.mk (blk_grown (g := gb320) (o := .cells #[.slice (some ad327) t312.length co17, .bool t315] 52 (0, 0)) (by (with_reducible repeat (first | refine blk_drewN ?_ _ | refine blk_drew ?_ | refine blk_alloc ?_ _)); exact BK320.out) hg (Kd.R_ne HO_8.out BK320.out (by decide))); have n5_ := Aside0.mk (blk_grown (g := gb321) (o := .cells #[.slice Ao20 t316.length co20, .bool t319] 52 (0, 0)) (by (with_reducible repeat (first | refine blk_drewN ?_ _ | refine blk_drew ?_ | refine blk_alloc ?_ _)); exact BK321.out) hg (Kd.R_ne HO_8.out BK321.out (by decide))); have n6_ := Aside0.mk ((by rw [hw]; exact below_set (HB.out) GB47.out : Below w.heap.size w w53)); clear HO_8; clear HO_36; clear HO_321000; clear HO_322000; clear BK320; clear BK321; clear HB; have HO_8 := n0_; have HO_36 := n1_; have HO_321000 := n2_; have HO_322000 := n3_; have BK320 := n4_; have BK321 := n5_; have HB := n6_; clear n0_ n1_ n2_ n3_ n4_ n5_ n6_; clear hg hw hp_))
                                          (try simp only [← hl8_4])
                                          go_roundg k4
                                          case measure => have := HJ2.out; have := HK2.out; have := HK3.out; have := HK4.out; omega
                                          case rel => exact ⟨(y335), (ji42), (by first | rfl | (simp; done) | (simp only [← hji42] <;> (first | rfl | simp)) | (simp [*]; done)), H', ⟨by have := HJ2.out; have := HK2.out; have := HK3.out; have := HK4.out; omega⟩, ⟨by (try simp only [hl8_4]); (with_reducible repeat (first | apply Kd.R_alloc | apply Kd.R_drewN | apply Kd.R_drew)); exact HO_8.out⟩, ⟨by (try simp only [hl8_4]); (with_reducible repeat (first | apply Kd.R_alloc | apply Kd.R_drewN | apply Kd.R_drew)); exact Kd.R_mono HO_36.out (fun _ hk => ⟨hk.2, hk.1⟩)⟩, ⟨by (try simp only [hl8_4]); (with_reducible repeat (first | apply Kd.R_alloc | apply Kd.R_drewN | apply Kd.R_drew)); exact Kd.R_mono HO_321000.out (fun _ hk => ⟨hk.2, hk.1⟩)⟩, ⟨by (try simp only [hl8_4]); (with_reducible repeat (first | apply Kd.R_alloc | apply Kd.R_drewN | apply Kd.R_drew)); exact Kd.R_mono HO_322000.out (fun _ hk => ⟨hk.2, ⟨hk.1.1, hk.1.2⟩⟩)⟩, ⟨by (try simp only [hl8_4]); (with_reducible repeat (first | refine blk_drewN ?_ _ | refine blk_drew ?_ | refine blk_alloc ?_ _)); exact BK320.out⟩, ⟨by (try simp only [hl8_4]); (with_reducible repeat (first | refine blk_drewN ?_ _ | refine blk_drew ?_ | refine blk_alloc ?_ _)); exact BK321.out⟩, ⟨by repeat (first | (with_reducible first | exact HB.out | apply below_alloc | apply pw_below_drewN | apply below_drew1 | refine below_set ?_ GE320.out | refine below_set ?_ GE321.out) | exact HB.out)⟩⟩
                                        · rw [if_neg c46] at H
                                          exact absurd H (by simp)
                                      · rw [if_neg c45] at H
                                        exact absurd H (by simp)
                                    · rw [if_neg c44] at H
                                      exact absurd H (by simp)
                                  · rw [if_neg c43] at H
                                    exact absurd H (by simp)
                                · rw [if_neg c41] at H
                                  have c41b0 : decide (x66_4 < (wrap64 ((x8_3.length : Int) - 1))) = false := decide_eq_false c41
                                  try (have c41bx := c41b0; rw [hl8_4] at c41bx)
                                  clear c41
                                  have H' := Aside0.mk H
                                  clear H
                                  go_wp2
                                  (try simp only [← hl8_4])
                                  go_roundg k4
                                  case measure => have := HJ2.out; have := HK2.out; have := HK3.out; have := HK4.out; omega
                                  case rel => exact ⟨(x8_4), (wrap64 (x38_2 + 1)), (by first | rfl | (simp; done) | (simp [*]; done)), H', ⟨by have := HJ2.out; have := HK2.out; have := HK3.out; have := HK4.out; omega⟩, ⟨by (try simp only [hl8_4]); (with_reducible repeat (first | apply Kd.R_alloc | apply Kd.R_drewN | apply Kd.R_drew)); exact HO_8.out⟩, ⟨by (try simp only [hl8_4]); (with_reducible repeat (first | apply Kd.R_alloc | apply Kd.R_drewN | apply Kd.R_drew)); exact HO_36.out⟩, ⟨by (try simp only [hl8_4]); (with_reducible repeat (first | apply Kd.R_alloc | apply Kd.R_drewN | apply Kd.R_drew)); exact HO_321000.out⟩, ⟨by (try simp only [hl8_4]); (with_reducible repeat (first | apply Kd.R_alloc | apply Kd.R_drewN | apply Kd.R_drew)); exact HO_322000.out⟩, ⟨by (try simp only [hl8_4]); (with_reducible repeat (first | refine blk_drewN ?_ _ | refine blk_drew ?_ | refine blk_alloc ?_ _)); exact BK320.out⟩, ⟨by (try simp only [hl8_4]); (with_reducible repeat (first | refine blk_drewN ?_ _ | refine blk_drew ?_ | refine blk_alloc ?_ _)); exact BK321.out⟩, ⟨by repeat (first | (with_reducible first | exact HB.out | apply below_alloc | apply pw_below_drewN | apply below_drew1 | refine below_set ?_ GE320.out | refine below_set ?_ GE321.out) | exact HB.out)⟩⟩
                    · rw [if_neg c27] at H
                      exact absurd H (by simp)
                  · rw [if_neg c26] at H
                    exact absurd H (by simp)
                · rw [if_neg c25] at H
                  have c25b0 : decide (x38_2 < (t312.length : Int)) = false := decide_eq_false c25
                  clear c25
                  replace H := Option.bind_eq_some_iff.mp H
                  obtain ⟨⟨t325, t326⟩, A540, H⟩ := H
                  replace H : (some (t325, t326)) = some (r1, r2) := H
                  have A54 := Aside0.mk A540
                  clear A540
                  simp only [Option.some.injEq, Prod.mk.injEq] at H
                  obtain ⟨rfl, rfl⟩ := H
                  have hnb55 := NB320_321.out
                  have hnc55 := NB321_320.out
                  have hcz56_0 : wr.cell? ⟨gb320, 0, none⟩ = some (.slice Ao17 t312.length co17) := (blk_cell BK320.out 0).trans rfl
                  have hcz56_1 : wr.cell? ⟨gb320, 1, none⟩ = some (.bool t315) := (blk_cell BK320.out 1).trans rfl
                  have hfz56_0 := blk_frozen BK320.out 0
                  have hfz56_1 := blk_frozen BK320.out 1
                  have hcz57_0 : wr.cell? ⟨gb321, 0, none⟩ = some (.slice Ao20 t316.length co20) := (blk_cell BK321.out 0).trans rfl
                  have hcz57_1 : wr.cell? ⟨gb321, 1, none⟩ = some (.bool t319) := (blk_cell BK321.out 1).trans rfl
                  have hfz57_0 := blk_frozen BK321.out 0
                  have hfz57_1 := blk_frozen BK321.out 1
                  obtain ⟨Ao58, co58, eo58⟩ := Kd.R_slice HO_8.out
                  subst eo58
                  go_wp2_with (first | ((with_reducible refine gate_callee (f := 38) rfl ?_); refine goesL_ (some 98) rfl rfl Tryd.func38 (by kernel_rfl) rfl #[.agg #[.slice Ao58 x8_2.length co58, .bool (t315 != t319)]] rfl (by (try simp only [List.map_toArray, List.map_cons, List.map_nil]); first | done | rfl | (simp only [List.length_drop, List.length_take]; rfl)) ?_; (with_reducible refine (rostrumref09_big_text.calls k2 _ _ x8_2 (t315 != t319) t325 t326 _ ?side1 ?side2 A54.out).mono ?_); (case side1 => repeat (first | exact (Kd.R_reads' HO_8.out).2.2 | (with_reducible refine Kd.C_alloc ?_ _) | (with_reducible refine Kd.C_drewN ?_ _) | (with_reducible refine Kd.C_drew ?_))); (case side2 => exact (Kd.R_reads' HO_8.out).2.1); rintro e w59 ⟨rfl, hb⟩; refine ⟨_, rfl, ?_⟩; have n0_ := Aside0.mk (Kd.R_below (by (with_reducible repeat (first | apply Kd.R_alloc | apply Kd.R_drewN | apply Kd.R_drew)); exact HO_8.out) hb); have n1_ := Aside0.mk (Kd.R_below (by (with_reducible repeat (first | apply Kd.R_alloc | apply Kd.R_drewN | apply Kd.R_drew)); exact HO_36.out) hb); have n2_ := Aside0.mk (Kd.R_below (by (with_reducible repeat (first | apply Kd.R_alloc | apply Kd.R_drewN | apply Kd.R_drew)); exact HO_321000.out) hb); have n3_ := Aside0.mk (Kd.R_below (by (with_reducible repeat (first | apply Kd.R_alloc | apply Kd.R_drewN | apply Kd.R_drew)); exact HO_322000.out) hb); have n4_ := Aside0.mk (blk_below (g := gb320) (o := .cells #[.slice Ao17 t312.length co17, .bool t315] 52 (0, 0)) (by (with_reducible repeat (first | refine blk_drewN ?_ _ | refine blk_drew ?_ | refine blk_alloc ?_ _)); exact BK320.out) hb); have n5_ := Aside0.mk (blk_below (g := gb321) (o := .cells #[.slice Ao20 t316.length co20, .bool t319] 52 (0, 0)) (by (with_reducible repeat (first | refine blk_drewN ?_ _ | refine blk_drew ?_ | refine blk_alloc ?_ _)); exact BK321.out) hb); have n6_ := Aside0.mk (below_step (by repeat (first | (with_reducible first | exact HB.out | apply below_alloc | apply pw_below_drewN | apply below_drew1 | refine below_set ?_ GE320.out | refine below_set ?_ GE321.out) | exact HB.out)) hb); clear HO_8; clear HO_36; clear HO_321000; clear HO_322000; clear BK320; clear BK321; clear HB; have HO_8 := n0_; have HO_36 := n1_; have HO_321000 := n2_; have HO_322000 := n3_; have BK320 := n4_; have BK321 := n5_; have HB := n6_; clear n0_ n1_ n2_ n3_ n4_ n5_ n6_; (try clear hb); (try clear hb2); (try clear hk); (try clear hi)))
                  go_ret2
                  exact ⟨by first | rfl | (simp [errW_none, errW_some] <;> rfl) | (simp only [← hji10]; first | rfl | (simp [errW_none, errW_some] <;> rfl)) | (simp [*, errW_none, errW_some] <;> rfl), by repeat (first | (with_reducible first | exact HB.out | apply below_alloc | apply pw_below_drewN | apply below_drew1 | refine below_set ?_ GE320.out | refine below_set ?_ GE321.out) | exact HB.out)⟩
          · rw [if_neg c12] at H
            exact absurd H (by simp)
        · rw [if_neg c11] at H
          exact absurd H (by simp)

-- NOT PRINTED: function 5 (rostrumlaw09_NumberSums)

-- NOT PRINTED: function 21 (number_Compare)

-- NOT PRINTED: function 6 (rostrumlaw09_NumberOrder)

-- NOT PRINTED: function 87 (bits_Add64)

end Go.Proofs.YtlnneellihkdkaaDoor.D
