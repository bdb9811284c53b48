
/- The reference's Hash. -/
import Derived.Test.YtpkfppfdkdjlhaaDoorDx15
import Derived.Test.YtpkfppfdkdjlhaaDoorHRefY
import Derived.Test.YtpkfppfdkdjlhaaDoorHCrc
namespace Go.Proofs.YtpkfppfdkdjlhaaDoor.D
open Go Go.Proofs Go.RowKit Go.Proofs.YtpkfppfdkdjlhaaDoorW.PrintWords Go.Proofs.YtpkfppfdkdjlhaaDoorW.PrintLast Go.Proofs.YtpkfppfdkdjlhaaDoorW.PrintMore
set_option linter.unusedVariables false
set_option linter.unusedSimpArgs false

def Byt (l : List Int) : Prop := ∀ x ∈ l, 0 ≤ x ∧ x < 256
theorem Byt.app {a b : List Int} (ha : Byt a) (hb : Byt b) : Byt (a ++ b) := fun x hx => by
  rcases List.mem_append.1 hx with h | h
  · exact ha x h
  · exact hb x h
theorem varF_byt : ∀ f n, Byt (varF f n)
  | 0, n => fun x hx => by simp only [varF, List.mem_singleton] at hx; omega
  | f + 1, n => fun x hx => by
    simp only [varF] at hx
    split at hx
    · rcases List.mem_cons.1 hx with h | h
      · omega
      · exact varF_byt f _ x h
    · simp only [List.mem_singleton] at hx; omega
theorem varL_byt (n : Int) : Byt (varL n) := varF_byt 9 _
theorem bytesOf_byt (s : ByteArray) : Byt (bytesOf s) := fun x hx => by
  simp only [bytesOf, List.mem_map] at hx
  obtain ⟨a, -, rfl⟩ := hx
  have := a.toNat_lt
  omega
theorem txtL_byt (s : ByteArray) : Byt (txtL s) := (varL_byt _).app (bytesOf_byt s)
theorem flat_byt {α : Type} (f : α → List Int) (h : ∀ a, Byt (f a)) (l : List α) : Byt (l.flatMap f) := fun x hx => by
  obtain ⟨a, -, ha⟩ := List.mem_flatMap.1 hx
  exact h a x ha
theorem encL_byt (I : List S40) (D : List S42) (Nm : List ByteArray) : Byt (encL I D Nm) :=
  ((((varL_byt _).app (flat_byt _ (fun x => ((varL_byt _).app (varL_byt _)).app (varL_byt _)) I)).app (varL_byt _)).app (flat_byt _ (fun x => txtL_byt _) D)).app (varL_byt _) |>.app (flat_byt _ txtL_byt Nm)
theorem byt_nat {l : List Int} (h : Byt l) : l = (l.map Int.toNat).map Int.ofNat := by
  induction l with
  | nil => rfl
  | cons a l ih =>
    have ha := h a (List.mem_cons_self ..)
    rw [List.map_cons, List.map_cons, ← ih (fun x hx => h x (List.mem_cons_of_mem _ hx))]
    congr 1
    exact (Int.toNat_of_nonneg ha.1).symm
theorem byt_lt {l : List Int} (h : Byt l) : ∀ x ∈ l.map Int.toNat, x < 256 := fun x hx => by
  obtain ⟨a, ha, rfl⟩ := List.mem_map.1 hx
  have := h a ha
  omega
/-- What Hash answers. -/
def hashR (I : List S40) (D : List S42) (Nm : List ByteArray) : Int := if verB I D Nm = true then ((Crc.sum ((encL I D Nm).map Int.toNat) : Nat) : Int) else 0
theorem hash_ev (I : List S40) (D : List S42) (Nm : List ByteArray) (hm : Nm.length ≤ 9223372036854775807) (hmD : D.length ≤ 9223372036854775807) (hs : ∀ s ∈ Nm, s.size + 10 < 140737488355328) (hf : ∀ i : Nat, i < D.length → Fit (rd_T42 D i)) (hd : ∀ x ∈ D, (putB x).length ≤ 100000000000000) (hb : (encL I D Nm).length < 140737488355328) :
    Ev (fun k => rostrumref13_Hash.f k I D Nm) (hashR I D Nm) := by
  simp only [rostrumref13_Hash.f]
  refine Ev.bind (encode_ev I D Nm hm hmD hs hf hd hb) ?_
  unfold encR hashR
  cases hv : verB I D Nm with
  | false => exact Ev.now _
  | true =>
    have h := refSum_ev ((encL I D Nm).map Int.toNat) (byt_lt (encL_byt I D Nm)) (by rw [List.length_map]; omega)
    rw [← byt_nat (encL_byt I D Nm)] at h
    simp only [if_true]
    exact Ev.bind h (Ev.now _)
end Go.Proofs.YtpkfppfdkdjlhaaDoor.D
