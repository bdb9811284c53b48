
/- The reference's Verify is verR. -/
import Derived.Test.YtpkfppfdkdjlhaaDoorDx10
import Derived.Test.YtpkfppfdkdjlhaaDoorDx11
import Derived.Test.YtpkfppfdkdjlhaaDoorDx6
import Derived.Test.YtpkfppfdkdjlhaaDoorDx9
import Derived.Test.YtpkfppfdkdjlhaaDoorHRefV
namespace Go.Proofs.YtpkfppfdkdjlhaaDoor.D
open Go Go.Proofs Go.RowKit Go.Proofs.YtpkfppfdkdjlhaaDoorW.PrintWords Go.Proofs.YtpkfppfdkdjlhaaDoorW.PrintLast Go.Proofs.YtpkfppfdkdjlhaaDoorW.PrintMore
set_option linter.unusedVariables false
set_option linter.unusedSimpArgs false

def r130 (b : Bool) (r : Int) : Int := if b = true then r else 130
theorem r130_and (a b : Bool) (r : Int) : r130 a (r130 b r) = r130 (a && b) r := by cases a <;> cases b <;> rfl
theorem all_loopE {α : Type} (F : Nat → Int → Option Int) (G : Nat → Option Int) (c : Nat → Nat → Option Bool) (p : α → Bool) (l : List α) (r : Int)
    (hc : ∀ i (hi : i < l.length), Ev (c i) (p l[i]))
    (hs : ∀ k i, i < l.length → F (k + 1) (i : Int) = (c i k).bind fun t => if t = true then F k ((i + 1 : Nat) : Int) else some 130)
    (he : ∀ k, F (k + 1) (l.length : Int) = G k) (hG : Ev G r) :
    ∀ n i, n + i = l.length → Ev (fun k => F k (i : Int)) (r130 ((l.drop i).all p) r)
  | 0, i, h => by
    obtain rfl : i = l.length := by omega
    rw [List.drop_length]
    exact Ev.step (f := G) (fun k => he k) (by simpa [r130] using hG)
  | n + 1, i, h => by
    have hi : i < l.length := by omega
    have ih := all_loopE F G c p l r hc hs he hG n (i + 1) (by omega)
    refine Ev.step (f := fun k => (c i k).bind fun t => if t = true then F k ((i + 1 : Nat) : Int) else some 130) (fun k => hs k i hi) ?_
    refine Ev.bind (hc i hi) ?_
    rw [List.drop_eq_getElem_cons hi, List.all_cons]
    cases p l[i] with
    | true => simpa using ih
    | false => exact Ev.now _

theorem lastB_of (nI nD nN : Int) (x : S40) (h : insB nI nD nN x = true) : r130 (lastB x) 0 = if x.f0 = 14 then 0 else if x.f0 = 13 then 0 else if x.f0 = 7 then 0 else if x.f0 = 12 then 0 else 130 := by
  obtain ⟨op, a, b⟩ := x
  simp only [insB, Bool.and_eq_true, decide_eq_true_eq] at h
  unfold r130 lastB
  by_cases h14 : op = 14
  · subst h14; simp [bnd] at h; obtain ⟨rfl, rfl⟩ : a = 0 ∧ b = 0 := by omega
    rfl
  by_cases h13 : op = 13
  · subst h13; simp [bnd] at h; obtain ⟨rfl, rfl⟩ : a = 0 ∧ b = 0 := by omega
    rfl
  by_cases h7 : op = 7
  · subst h7; simp
  by_cases h12 : op = 12
  · subst h12; simp
  simp [h14, h13, h7, h12]

theorem symB_name (s : ByteArray) : symB s = nameL (bytesOf s) := by
  simp [symB, rightB]

theorem rd_c40 {l : List S40} {i : Nat} (h : i < l.length) : rd_T40 l (i : Int) = l[i] := by
  simp only [rd_T40, Int.toNat_natCast, List.getD_eq_getElem?_getD, List.getElem?_eq_getElem h, Option.getD_some]
theorem rd_cS {l : List ByteArray} {i : Nat} (h : i < l.length) : rdOf ByteArray.empty l (i : Int) = l[i] := by
  simp only [rdOf, Int.toNat_natCast, List.getD_eq_getElem?_getD, List.getElem?_eq_getElem h, Option.getD_some]

set_option maxHeartbeats 1000000 in
theorem ver_l2 (I : List S40) (D : List S42) (Nm : List ByteArray) (hl1 : 1 ≤ I.length) (hl2 : I.length ≤ 20000) :
    Ev (fun k => rostrumref13_Verify.l2 k I (I.length : Int) 0 I D Nm) (r130 (I.all (insB I.length D.length Nm.length)) (if (rd_T40 I (I.length - 1 : Int)).f0 = 14 then 0 else if (rd_T40 I (I.length - 1 : Int)).f0 = 13 then 0 else if (rd_T40 I (I.length - 1 : Int)).f0 = 7 then 0 else if (rd_T40 I (I.length - 1 : Int)).f0 = 12 then 0 else 130)) := by
  have := all_loopE (fun k i => rostrumref13_Verify.l2 k I (I.length : Int) i I D Nm) (fun _ => some (if (rd_T40 I (I.length - 1 : Int)).f0 = 14 then 0 else if (rd_T40 I (I.length - 1 : Int)).f0 = 13 then 0 else if (rd_T40 I (I.length - 1 : Int)).f0 = 7 then 0 else if (rd_T40 I (I.length - 1 : Int)).f0 = 12 then 0 else 130))
    (fun i k => rostrumref13_instr.f k I D Nm (rd_T40 I (i : Int)).f0 (rd_T40 I (i : Int)).f1 (rd_T40 I (i : Int)).f2) (insB I.length D.length Nm.length) I _ (fun i hi => by rw [← rd_c40 hi]; exact instr_ev I D Nm _) (fun k i hi => by
      simp only [rostrumref13_Verify.l2]
      rw [if_pos (by omega), if_pos (by omega), if_pos (by omega), up_ hi (by omega)]) (fun k => by
      simp only [rostrumref13_Verify.l2]
      rw [if_neg (by omega), show wrap64 ((I.length : Int) - 1) = (I.length : Int) - 1 from by unfold wrap64; omega, if_pos (by omega), if_pos (by omega)]
      repeat' split
      all_goals rfl) (Ev.now _) _ 0 rfl
  simpa using this
theorem ver_l1 (I : List S40) (D : List S42) (Nm : List ByteArray) (hns : ∀ s ∈ Nm, s.size ≤ 9223372036854775807) (hm : Nm.length ≤ 9223372036854775807) (r : Int) (h : Ev (fun k => rostrumref13_Verify.l2 k I (I.length : Int) 0 I D Nm) r) :
    Ev (fun k => rostrumref13_Verify.l1 k Nm (Nm.length : Int) 0 I D Nm) (r130 (Nm.all symB) r) := by
  have := all_loopE (fun k i => rostrumref13_Verify.l1 k Nm (Nm.length : Int) i I D Nm) (fun k => rostrumref13_Verify.l2 k I (I.length : Int) 0 I D Nm)
    (fun i k => rostrumref10_IsName.f k (rdOf ByteArray.empty Nm (i : Int))) symB Nm r (fun i hi => by rw [rd_cS hi, symB_name]; exact name_ref _ (hns _ (List.getElem_mem hi))) (fun k i hi => by
      simp only [rostrumref13_Verify.l1]
      rw [if_pos (by omega), if_pos (by omega), if_pos (by omega), up_ hi hm]) (fun k => by
      simp only [rostrumref13_Verify.l1]
      rw [if_neg (by omega)]) h _ 0 rfl
  simpa using this
theorem ver_l0 (I : List S40) (D : List S42) (Nm : List ByteArray) (hfit : ∀ i : Nat, i < D.length → Fit (rd_T42 D i)) (hm : D.length ≤ 9223372036854775807) (r : Int) (h : Ev (fun k => rostrumref13_Verify.l1 k Nm (Nm.length : Int) 0 I D Nm) r) :
    Ev (fun k => rostrumref13_Verify.l0 k D (D.length : Int) 0 I D Nm) (r130 (rightL D 64) r) := by
  have := all_loopE (fun k i => rostrumref13_Verify.l0 k D (D.length : Int) i I D Nm) (fun k => rostrumref13_Verify.l1 k Nm (Nm.length : Int) 0 I D Nm)
    (fun i k => rostrumref10_Can.f k (rd_T42 D (i : Int)).f0 (rd_T42 D (i : Int)).f1 (rd_T42 D (i : Int)).f2 (rd_T42 D (i : Int)).f3) (fun a => rightB a 64) D r (fun i hi => by rw [← rd_cast' hi]; exact ref_can _ (hfit i hi)) (fun k i hi => by
      simp only [rostrumref13_Verify.l0]
      rw [if_pos (by omega), if_pos (by omega), if_pos (by omega), up_ hi hm]) (fun k => by
      simp only [rostrumref13_Verify.l0]
      rw [if_neg (by omega)]) h _ 0 rfl
  rw [rightL_all]
  simpa using this
theorem verify_ev (I : List S40) (D : List S42) (Nm : List ByteArray) (hfit : ∀ i : Nat, i < D.length → Fit (rd_T42 D i)) (hns : ∀ s ∈ Nm, s.size ≤ 9223372036854775807) (hD : D.length ≤ 9223372036854775807) (hN : Nm.length ≤ 9223372036854775807) :
    Ev (fun k => rostrumref13_Verify.f k I D Nm) (verR I D Nm) := by
  have hbad : Ev (fun k => rostrumref13_Verify.j0 k true I D Nm) 130 := Ev.step (f := fun _ => some 130) (fun k => by simp only [rostrumref13_Verify.j0, if_true]) (Ev.now _)
  by_cases h1 : I.length < 1
  · rw [verR_no (by unfold verB; rw [decide_eq_false (show ¬ 1 ≤ I.length by omega)]; simp)]
    refine Ev.congr (fun k => ?_) hbad
    simp only [rostrumref13_Verify.f]; rw [if_pos (by omega)]
  by_cases h2 : 20000 < I.length
  · rw [verR_no (by unfold verB; rw [decide_eq_false (show ¬ I.length ≤ 20000 by omega)]; simp)]
    refine Ev.congr (fun k => ?_) hbad
    simp only [rostrumref13_Verify.f]; rw [if_neg (by omega), decide_eq_true (by omega)]
  have hl := ver_l0 I D Nm hfit hD _ (ver_l1 I D Nm hns hN _ (ver_l2 I D Nm (by omega) (by omega)))
  refine Ev.congr (f := fun k => rostrumref13_Verify.j0 k false I D Nm) (fun k => ?_) (Ev.step (f := fun k => rostrumref13_Verify.l0 k D (D.length : Int) 0 I D Nm) (fun k => ?_) ?_)
  · simp only [rostrumref13_Verify.f]; rw [if_neg (by omega), decide_eq_false (by omega)]
  · simp only [rostrumref13_Verify.j0]; rw [if_neg (by simp)]
  · rw [show verR I D Nm = _ from ?_]
    · exact hl
    · have hv : verB I D Nm = (rightL D 64 && (Nm.all symB && (I.all (insB I.length D.length Nm.length) && lastB (rd_T40 I (I.length - 1 : Int))))) := by
        unfold verB; rw [decide_eq_true (show 1 ≤ I.length by omega), decide_eq_true (show I.length ≤ 20000 by omega)]; simp [Bool.and_assoc]
      show r130 (verB I D Nm) 0 = _
      rw [hv, ← r130_and, ← r130_and, ← r130_and]
      cases ha : I.all (insB I.length D.length Nm.length) with
      | false => rfl
      | true =>
        have hk : I.length - 1 < I.length := by omega
        have hx := List.all_eq_true.1 ha I[I.length - 1] (List.getElem_mem hk)
        have he : rd_T40 I ((I.length : Int) - 1) = I[I.length - 1] := by
          rw [← rd_c40 hk]; congr 1; omega
        rw [he, lastB_of _ _ _ _ hx]
end Go.Proofs.YtpkfppfdkdjlhaaDoor.D
