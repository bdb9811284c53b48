
/- The reference's Encode answers encL. -/
import Derived.Test.YtpkfppfdkdjlhaaDoorDx12
import Derived.Test.YtpkfppfdkdjlhaaDoorDx13
import Derived.Test.YtpkfppfdkdjlhaaDoorDx14
import Derived.Test.YtpkfppfdkdjlhaaDoorHRefW
import Derived.Test.YtpkfppfdkdjlhaaDoorHPrint
import Derived.Test.YtpkfppfdkdjlhaaDoorHVar
namespace Go.Proofs.YtpkfppfdkdjlhaaDoor.D
open Go Go.Proofs Go.RowKit Go.Proofs.YtpkfppfdkdjlhaaDoorW.PrintWords Go.Proofs.YtpkfppfdkdjlhaaDoorW.PrintLast Go.Proofs.YtpkfppfdkdjlhaaDoorW.PrintMore
set_option linter.unusedVariables false
set_option linter.unusedSimpArgs false

theorem print_ev (x : S42) (hf : Fit x) (hl : (putB x).length ≤ 100000000000000) : Ev (fun k => rostrumref10_Print.f k x.f0 x.f1 x.f2 x.f3) (datum_PrintB x) := by
  simp only [rostrumref10_Print.f]
  refine Ev.bind (ref_can x hf) ?_
  unfold datum_PrintB
  cases hr : rightB x 64 with
  | false => exact Ev.now _
  | true =>
    have := ref_printed _ x (Nat.le_refl _) hf 64 hr hl
    simp only [if_true]
    exact Ev.bind this (Ev.now _)

/-- An instruction's bytes; a text's; a code's. -/
def insL (x : S40) : List Int := varL x.f0 ++ varL x.f1 ++ varL x.f2
def txtL (s : ByteArray) : List Int := varL s.size ++ bytesOf s
def datL (x : S42) : List Int := txtL (datum_PrintB x)
def encL (I : List S40) (D : List S42) (Nm : List ByteArray) : List Int :=
  varL I.length ++ I.flatMap insL ++ varL D.length ++ D.flatMap datL ++ varL Nm.length ++ Nm.flatMap txtL

theorem acc_loopE {α R : Type} (F : Nat → List Int → Int → Option R) (c : Nat → Nat → Option (List Int)) (b : α → List Int) (l : List α) (r : R)
    (hc : ∀ i (hi : i < l.length), Ev (c i) (b l[i]))
    (hs : ∀ k o i, i < l.length → F (k + 1) o (i : Int) = (c i k).bind fun t => if o.length + t.length < 140737488355328 then F k (o ++ t) ((i + 1 : Nat) : Int) else none) :
    ∀ n i o, n + i = l.length → (o ++ (l.drop i).flatMap b).length < 140737488355328 → Ev (fun k => F k (o ++ (l.drop i).flatMap b) (l.length : Int)) r → Ev (fun k => F k o (i : Int)) r
  | 0, i, o, h, hb, hG => by
    obtain rfl : i = l.length := by omega
    simpa using hG
  | n + 1, i, o, h, hb, hG => by
    have hi : i < l.length := by omega
    rw [List.drop_eq_getElem_cons hi, List.flatMap_cons, ← List.append_assoc] at hb hG
    have ih := acc_loopE F c b l r hc hs n (i + 1) (o ++ b l[i]) (by omega) hb hG
    refine Ev.step (f := fun k => (c i k).bind fun t => if o.length + t.length < 140737488355328 then F k (o ++ t) ((i + 1 : Nat) : Int) else none) (fun k => hs k o i hi) ?_
    refine Ev.bind (hc i hi) ?_
    have hg : o.length + (b l[i]).length < 140737488355328 := by simp only [List.length_append] at hb; omega
    exact Ev.congr (fun k => if_pos hg) ih

theorem enc_l2 (Nm : List ByteArray) (hm : Nm.length ≤ 9223372036854775807) (hs : ∀ s ∈ Nm, s.size + 10 < 140737488355328) (o : List Int) (hb : (o ++ Nm.flatMap txtL).length < 140737488355328) :
    Ev (fun k => rostrumref13_Encode.l2 k o Nm (Nm.length : Int) 0) (o ++ Nm.flatMap txtL, 0) := by
  have := acc_loopE (fun k o i => rostrumref13_Encode.l2 k o Nm (Nm.length : Int) i) (fun i k => rostrumref01_Text.f k ([] : List Int) (rdOf ByteArray.empty Nm (i : Int))) txtL Nm (o ++ Nm.flatMap txtL, (0 : Int))
    (fun i hi => by rw [rd_cS hi]; simpa [txtL] using reftext_ev [] Nm[i] (by have := hs _ (List.getElem_mem hi); simp only [List.length_nil]; omega))
    (fun k o i hi => by
      simp only [rostrumref13_Encode.l2]
      rw [if_pos (by omega), if_pos (by omega), if_pos (by omega), up_ hi hm]) _ 0 o rfl (by simpa using hb)
    (Ev.step (f := fun _ => some (o ++ Nm.flatMap txtL, (0 : Int))) (fun k => by simp only [rostrumref13_Encode.l2]; rw [if_neg (by omega)]; simp) (Ev.now _))
  simpa using this
theorem enc_l1 (I : List S40) (D : List S42) (Nm : List ByteArray) (hm : Nm.length ≤ 9223372036854775807) (hmD : D.length ≤ 9223372036854775807) (hs : ∀ s ∈ Nm, s.size + 10 < 140737488355328) (hf : ∀ i : Nat, i < D.length → Fit (rd_T42 D i)) (hd : ∀ x ∈ D, (putB x).length ≤ 100000000000000) (o : List Int) (hb : (o ++ D.flatMap datL ++ varL Nm.length ++ Nm.flatMap txtL).length < 140737488355328) :
    Ev (fun k => rostrumref13_Encode.l1 k o D (D.length : Int) 0 I D Nm) (o ++ D.flatMap datL ++ varL Nm.length ++ Nm.flatMap txtL, 0) := by
  have hE := enc_l2 Nm hm hs _ hb
  have := acc_loopE (fun k o i => rostrumref13_Encode.l1 k o D (D.length : Int) i I D Nm) (fun i k => (rostrumref10_Print.f k (rd_T42 D (i : Int)).f0 (rd_T42 D (i : Int)).f1 (rd_T42 D (i : Int)).f2 (rd_T42 D (i : Int)).f3).bind fun t => rostrumref01_Text.f k ([] : List Int) t) datL D (o ++ D.flatMap datL ++ varL Nm.length ++ Nm.flatMap txtL, (0 : Int))
    (fun i hi => by
      have h1 := hd _ (List.getElem_mem hi)
      refine Ev.bind (a := datum_PrintB D[i]) (by rw [← rd_cast' hi]; exact print_ev _ (hf i hi) (by rw [rd_cast' hi]; exact h1)) ?_
      have h2 : (datum_PrintB D[i]).size ≤ (putB D[i]).length := by
        unfold datum_PrintB; split
        · exact Nat.le_of_eq rfl
        · exact Nat.zero_le _
      simpa [datL, txtL] using reftext_ev [] (datum_PrintB D[i]) (by simp only [List.length_nil]; omega))
    (fun k o i hi => by
      simp only [rostrumref13_Encode.l1]
      rw [if_pos (by omega), if_pos (by omega), if_pos (by omega), up_ hi hmD, Option.bind_assoc]) _ 0 o rfl (by simp only [List.drop_zero]; simp only [List.length_append] at hb ⊢; omega)
    (Ev.step (f := fun k => (rostrumref01_Put.f k ([] : List Int) (Nm.length : Int)).bind fun t => if (o ++ D.flatMap datL).length + t.length < 140737488355328 then rostrumref13_Encode.l2 k (o ++ D.flatMap datL ++ t) Nm (Nm.length : Int) 0 else none) (fun k => by simp only [rostrumref13_Encode.l1]; rw [if_neg (by omega)]; simp only [List.drop_zero])
      (Ev.bind (by simpa using refput_ev [] (Nm.length : Int) (by omega) (by simp)) (Ev.congr (fun k => if_pos (by simp only [List.length_append] at hb ⊢; omega)) hE)))
  simpa using this
end Go.Proofs.YtpkfppfdkdjlhaaDoor.D
