
/- The reference's Encode and Hash. -/
import Derived.Test.YtpkfppfdkdjlhaaDoorDx12
import Derived.Test.YtpkfppfdkdjlhaaDoorDx14
import Derived.Test.YtpkfppfdkdjlhaaDoorHRefX
namespace Go.Proofs.YtpkfppfdkdjlhaaDoor.D
open Go Go.Proofs Go.RowKit Go.Proofs.YtpkfppfdkdjlhaaDoorW.PrintWords Go.Proofs.YtpkfppfdkdjlhaaDoorW.PrintLast Go.Proofs.YtpkfppfdkdjlhaaDoorW.PrintMore
set_option linter.unusedVariables false
set_option linter.unusedSimpArgs false

theorem ins_ev (x : S40) (h0 : x.f0 ≤ 9223372036854775807) (h1 : x.f1 ≤ 9223372036854775807) (h2 : x.f2 ≤ 9223372036854775807) :
    Ev (fun k => (rostrumref01_Put.f k ([] : List Int) x.f0).bind fun t => (rostrumref01_Put.f k t x.f1).bind fun t => rostrumref01_Put.f k t x.f2) (insL x) := by
  have e0 := varL_len x.f0
  have e1 := varL_len x.f1
  refine Ev.bind (refput_ev [] x.f0 h0 (by simp)) ?_
  refine Ev.bind (refput_ev _ x.f1 h1 (by simp only [List.length_append, List.length_nil]; omega)) ?_
  have h := refput_ev ([] ++ varL x.f0 ++ varL x.f1) x.f2 h2 (by simp only [List.length_append, List.length_nil]; omega)
  have e : insL x = [] ++ varL x.f0 ++ varL x.f1 ++ varL x.f2 := rfl
  rw [e]
  exact h
def encT (D : List S42) (Nm : List ByteArray) : List Int := varL D.length ++ (D.flatMap datL ++ (varL Nm.length ++ Nm.flatMap txtL))
theorem enc_l0 (I : List S40) (D : List S42) (Nm : List ByteArray) (hmI : I.length ≤ 9223372036854775807) (hm : Nm.length ≤ 9223372036854775807) (hmD : D.length ≤ 9223372036854775807) (hi : ∀ x ∈ I, x.f0 ≤ 9223372036854775807 ∧ x.f1 ≤ 9223372036854775807 ∧ x.f2 ≤ 9223372036854775807) (hs : ∀ s ∈ Nm, s.size + 10 < 140737488355328) (hf : ∀ i : Nat, i < D.length → Fit (rd_T42 D i)) (hd : ∀ x ∈ D, (putB x).length ≤ 100000000000000) (o : List Int) (hb : (o ++ I.flatMap insL ++ varL D.length ++ D.flatMap datL ++ varL Nm.length ++ Nm.flatMap txtL).length < 140737488355328) :
    Ev (fun k => rostrumref13_Encode.l0 k o I (I.length : Int) 0 I D Nm) (o ++ I.flatMap insL ++ varL D.length ++ D.flatMap datL ++ varL Nm.length ++ Nm.flatMap txtL, 0) := by
  have hE := enc_l1 I D Nm hm hmD hs hf hd _ hb
  have := acc_loopE (fun k o i => rostrumref13_Encode.l0 k o I (I.length : Int) i I D Nm) (fun i k => (rostrumref01_Put.f k ([] : List Int) (rd_T40 I (i : Int)).f0).bind fun t => (rostrumref01_Put.f k t (rd_T40 I (i : Int)).f1).bind fun t => rostrumref01_Put.f k t (rd_T40 I (i : Int)).f2) insL I (o ++ I.flatMap insL ++ varL D.length ++ D.flatMap datL ++ varL Nm.length ++ Nm.flatMap txtL, (0 : Int))
    (fun i h => by
      have h1 := hi _ (List.getElem_mem h)
      rw [← rd_c40 h] at h1 ⊢
      exact ins_ev _ h1.1 h1.2.1 h1.2.2)
    (fun k o i h => by
      simp only [rostrumref13_Encode.l0]
      rw [if_pos (by omega), if_pos (by omega), if_pos (by omega), up_ h hmI]
      simp only [Option.bind_assoc]) _ 0 o rfl (by simp only [List.drop_zero]; simp only [List.length_append] at hb ⊢; omega)
    (Ev.step (f := fun k => (rostrumref01_Put.f k ([] : List Int) (D.length : Int)).bind fun t => if (o ++ I.flatMap insL).length + t.length < 140737488355328 then rostrumref13_Encode.l1 k (o ++ I.flatMap insL ++ t) D (D.length : Int) 0 I D Nm else none) (fun k => by simp only [rostrumref13_Encode.l0]; rw [if_neg (by omega)]; simp only [List.drop_zero])
      (Ev.bind (by simpa using refput_ev [] (D.length : Int) (by omega) (by simp)) (Ev.congr (fun k => if_pos (by simp only [List.length_append] at hb ⊢; omega)) hE)))
  simpa using this
theorem insB_fits {nI nD nN : Nat} (h1 : nI ≤ 9223372036854775807) (h2 : nD ≤ 9223372036854775807) (h3 : nN ≤ 9223372036854775807) {x : S40} (h : insB nI nD nN x = true) : x.f0 ≤ 9223372036854775807 ∧ x.f1 ≤ 9223372036854775807 ∧ x.f2 ≤ 9223372036854775807 := by
  have hb := bnd_fits nI nD nN x.f0 (by omega) (by omega) (by omega)
  simp only [insB, Bool.and_eq_true, decide_eq_true_eq] at h
  refine ⟨?_, by omega, by omega⟩
  apply Classical.byContradiction
  intro hn
  have : bnd nI nD nN x.f0 = (0, 0) := by
    unfold bnd
    rw [if_neg (by omega), if_neg (by omega), if_neg (by omega), if_neg (by omega), if_neg (by omega), if_neg (by omega), if_neg (by omega)]
  rw [this] at h
  simp at h
  omega
/-- What Encode answers. -/
def encR (I : List S40) (D : List S42) (Nm : List ByteArray) : List Int × Int := if verB I D Nm = true then (encL I D Nm, 0) else ([], 130)
theorem encode_ev (I : List S40) (D : List S42) (Nm : List ByteArray) (hm : Nm.length ≤ 9223372036854775807) (hmD : D.length ≤ 9223372036854775807) (hs : ∀ s ∈ Nm, s.size + 10 < 140737488355328) (hf : ∀ i : Nat, i < D.length → Fit (rd_T42 D i)) (hd : ∀ x ∈ D, (putB x).length ≤ 100000000000000) (hb : (encL I D Nm).length < 140737488355328) :
    Ev (fun k => rostrumref13_Encode.f k I D Nm) (encR I D Nm) := by
  simp only [rostrumref13_Encode.f]
  refine Ev.bind (verify_ev I D Nm hf (fun s h => by have := hs s h; omega) hmD hm) ?_
  unfold encR verR
  cases hv : verB I D Nm with
  | false => exact Ev.now _
  | true =>
    have hv' := hv
    unfold verB at hv'
    simp only [Bool.and_eq_true, decide_eq_true_eq] at hv'
    have hI := List.all_eq_true.1 hv'.1.2
    have hl : I.length ≤ 20000 := hv'.1.1.1.1.2
    have hE := enc_l0 I D Nm (by omega) hm hmD (fun x hx => insB_fits (by omega) hmD hm (hI x hx)) hs hf hd (varL I.length) (by simpa [encL] using hb)
    simp only [if_true]
    exact Ev.bind (by simpa using refput_ev [] (I.length : Int) (by omega) (by simp)) hE
end Go.Proofs.YtpkfppfdkdjlhaaDoor.D
