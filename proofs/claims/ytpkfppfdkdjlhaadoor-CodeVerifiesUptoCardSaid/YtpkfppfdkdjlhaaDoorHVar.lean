
/- The bytes of a length: wire.Put and the reference's Put, wire.Text and the reference's Text. -/
import Derived.Test.YtpkfppfdkdjlhaaDoorDx12
import Derived.Test.YtpkfppfdkdjlhaaDoorDx4
import Derived.Test.YtpkfppfdkdjlhaaDoorHNames
namespace Go.Proofs.YtpkfppfdkdjlhaaDoor.D
open Go Go.Proofs Go.RowKit Go.Proofs.YtpkfppfdkdjlhaaDoorW.PrintWords Go.Proofs.YtpkfppfdkdjlhaaDoorW.PrintLast Go.Proofs.YtpkfppfdkdjlhaaDoorW.PrintMore
set_option linter.unusedVariables false
set_option linter.unusedSimpArgs false

def varF : Nat → Int → List Int
  | 0, n => [n % 256]
  | f + 1, n => if n > 127 then (n % 128 + 128) :: varF f (n / 128) else [n % 256]
/-- A number's bytes: seven bits a byte, the lowest first. -/
def varL (n : Int) : List Int := varF 9 (mx n 0)
theorem varF_len : ∀ f n, (varF f n).length ≤ f + 1
  | 0, n => by simp [varF]
  | f + 1, n => by
    have := varF_len f (n / 128)
    simp only [varF]
    split
    · simp only [List.length_cons]; omega
    · simp
theorem varL_len (n : Int) : (varL n).length ≤ 10 := varF_len 9 _

set_option maxRecDepth 100000 in
theorem or128N : ∀ i : Fin 256, Go.bits .or .u8 ((i.val : Nat) : Int) 128 = (((i.val % 128 + 128 : Nat)) : Int) := by decide
theorem or128 (n : Int) (h : 0 ≤ n) : Go.bits .or .u8 (n % 256) 128 = n % 128 + 128 := by
  have h1 : (n % 256).toNat < 256 := by omega
  have := or128N ⟨(n % 256).toNat, h1⟩
  simp only at this
  rw [show (((n % 256).toNat : Nat) : Int) = n % 256 by omega] at this
  rw [this]; omega

theorem put_l0 : ∀ (f : Nat) (n : Int) (l : List Int), 0 ≤ n → n < 128 ^ (f + 1) → l.length + f + 1 ≤ 140737488355328 → Ev (fun k => wire_Put.l0 k n l) (l ++ varF f n)
  | 0, n, l, h0, h1, h2 => by
    refine Ev.step (f := fun _ => some (l ++ [n % 256])) (fun k => ?_) (Ev.now _)
    simp only [wire_Put.l0]
    rw [if_neg (by simp at h1; omega), if_pos (by omega)]
  | f + 1, n, l, h0, h1, h2 => by
    by_cases hg : n > 127
    · have ih := put_l0 f (n / 128) (l ++ [n % 128 + 128]) (by omega) (by rw [Int.pow_succ] at h1; omega) (by simp only [List.length_append, List.length_cons, List.length_nil]; omega)
      refine Ev.step (f := fun k => wire_Put.l0 k (n / 128) (l ++ [n % 128 + 128])) (fun k => ?_) (by simpa only [varF, if_pos hg, List.append_assoc, List.cons_append, List.nil_append] using ih)
      simp only [wire_Put.l0]
      rw [if_pos hg, if_pos (by omega), or128 n h0]
    · refine Ev.step (f := fun _ => some (l ++ [n % 256])) (fun k => ?_) (by simpa only [varF, if_neg hg] using Ev.now _)
      simp only [wire_Put.l0]
      rw [if_neg hg, if_pos (by omega)]
theorem refput_l0 : ∀ (f : Nat) (n : Int) (l : List Int), 0 ≤ n → n ≤ 9223372036854775807 → n < 128 ^ (f + 1) → l.length + f + 1 ≤ 140737488355328 → Ev (fun k => rostrumref01_Put.l0 k n l) (l ++ varF f n)
  | 0, n, l, h0, hm, h1, h2 => by
    refine Ev.step (f := fun _ => some (l ++ [n % 256])) (fun k => ?_) (Ev.now _)
    simp only [rostrumref01_Put.l0]
    rw [if_neg (by simp at h1; omega), if_pos (by omega)]
  | f + 1, n, l, h0, hm, h1, h2 => by
    by_cases hg : n > 127
    · have ih := refput_l0 f (n / 128) (l ++ [n % 128 + 128]) (by omega) (by omega) (by rw [Int.pow_succ] at h1; omega) (by simp only [List.length_append, List.length_cons, List.length_nil]; omega)
      refine Ev.step (f := fun k => rostrumref01_Put.l0 k (n / 128) (l ++ [n % 128 + 128])) (fun k => ?_) (by simpa only [varF, if_pos hg, List.append_assoc, List.cons_append, List.nil_append] using ih)
      simp only [rostrumref01_Put.l0]
      rw [if_pos (by omega), if_pos (by omega), Int.tdiv_eq_ediv_of_nonneg h0, Int.tmod_eq_emod_of_nonneg h0, show wrap64 (n / 128) = n / 128 from by unfold wrap64; omega, show wrap64 (n % 128 + 128) % 256 = n % 128 + 128 from by unfold wrap64; omega]
    · refine Ev.step (f := fun _ => some (l ++ [n % 256])) (fun k => ?_) (by simpa only [varF, if_neg hg] using Ev.now _)
      simp only [rostrumref01_Put.l0]
      rw [if_neg (by omega), if_pos (by omega)]
theorem mx_fits (n : Int) (h : n ≤ 9223372036854775807) : 0 ≤ mx n 0 ∧ mx n 0 ≤ 9223372036854775807 := by unfold mx; split <;> omega
theorem put_ev (l : List Int) (n : Int) (hn : n ≤ 9223372036854775807) (hl : l.length + 10 ≤ 140737488355328) : Ev (fun k => wire_Put.f k l n) (l ++ varL n) := by
  have h := mx_fits n hn
  refine Ev.congr (f := fun k => wire_Put.l0 k (mx n 0) l) (fun k => ?_) (put_l0 9 _ l h.1 (by simp only [show (128 : Int) ^ (9 + 1) = 1180591620717411303424 from by decide]; omega) (by omega))
  simp only [wire_Put.f, slices_Clone_byte_byte.f]
  rw [if_pos (by omega), Option.bind_some]
theorem refput_ev (l : List Int) (n : Int) (hn : n ≤ 9223372036854775807) (hl : l.length + 10 ≤ 140737488355328) : Ev (fun k => rostrumref01_Put.f k l n) (l ++ varL n) := by
  have h := mx_fits n hn
  refine Ev.congr (f := fun k => rostrumref01_Put.l0 k (mx n 0) l) (fun k => ?_) (refput_l0 9 _ l h.1 h.2 (by simp only [show (128 : Int) ^ (9 + 1) = 1180591620717411303424 from by decide]; omega) (by omega))
  simp only [rostrumref01_Put.f]
  rw [Option.bind_some, List.nil_append, if_pos (by simp only [List.length_nil]; omega)]
theorem text_ev (l : List Int) (s : ByteArray) (hl : l.length + s.size + 10 < 140737488355328) : Ev (fun k => wire_Text.f k l s) (l ++ varL s.size ++ bytesOf s) := by
  simp only [wire_Text.f]
  refine Ev.bind (put_ev l s.size (by omega) (by omega)) ?_
  rw [if_pos (by have := varL_len s.size; simp only [List.length_append]; omega)]
  exact Ev.now _
theorem reftext_ev (l : List Int) (s : ByteArray) (hl : l.length + s.size + 10 < 140737488355328) : Ev (fun k => rostrumref01_Text.f k l s) (l ++ varL s.size ++ bytesOf s) := by
  simp only [rostrumref01_Text.f]
  refine Ev.bind (refput_ev l s.size (by omega) (by omega)) ?_
  rw [if_pos (by have := varL_len s.size; simp only [List.length_append]; omega)]
  exact Ev.now _
end Go.Proofs.YtpkfppfdkdjlhaaDoor.D
